/- Texts of this claim, merged by a program of this session. -/
import Derived.Test.YtncpldpddbjdgaaProg
import Derived.Below
import Derived.Deep.Draws
import Derived.Deep.AppendLies
import Derived.Maps.AppendAt
import Derived.OwnWalk
import Derived.Laws.BytesArg
import Derived.Laws.MakeOwn
import Derived.Laws.OwnMore
import Derived.Deep.OwnRows
import Derived.Tactics
import Derived.Lib.ConvBytes
import Derived.Laws.Slices
import Derived.WalkKit
import Derived.KernelRfl
import Derived.RowKit3
import Derived.Deep.LoopGhost
import Derived.Deep.QuietTactic
import Derived.BigQuiet
import Derived.WideLaws
import Derived.Deep.DeepCutAuto
import Derived.Deep.CutBlock
import Derived.Deep.RegionHeld3
import Derived.Laws.Rows
import Derived.Lib.AppendStr
import Derived.ArgAppend
import Derived.Laws.IdiomCopy
import Derived.OrdersHeld
import Derived.Laws.BitsLemmas
import Derived.RowKit
import Derived.Lib.Strings
import Derived.Lib.Slices
import Derived.Lib.Walk
import Derived.Lib.Bytealg
import Derived.Test.YtncpldpddbjdgaaKLawFnExactNewCollp12
import Derived.Test.YtncpldpddbjdgaaKLawFnExactNewCollp0
import Derived.Test.YtncpldpddbjdgaaKLawFnExactNewCollp1
import Derived.Test.YtncpldpddbjdgaaKLawFnExactNewCollp13
import Derived.Test.YtncpldpddbjdgaaKLawFnExactNewCollp14
import Derived.Test.YtncpldpddbjdgaaKLawFnExactNewCollp2
import Derived.Test.YtncpldpddbjdgaaKLawFnExactNewCollp3
import Derived.Test.YtncpldpddbjdgaaKLawFnExactNewCollp4
import Derived.Test.YtncpldpddbjdgaaKLawFnExactNewCollp5
import Derived.Test.YtncpldpddbjdgaaKLawFnExactNewCollp6
import Derived.Test.YtncpldpddbjdgaaKLawFnExactNewCollp7
import Derived.Test.YtncpldpddbjdgaaKLawFnExactNewCollp8
import Derived.Test.YtncpldpddbjdgaaKLawFnExactNewCollp9
import Derived.Test.YtncpldpddbjdgaaKLawFnExactNewCollp15
import Derived.Test.YtncpldpddbjdgaaKLawFnExactNewCollp16
import Derived.Test.YtncpldpddbjdgaaKLawFnExactNewCollp17
import Derived.Test.YtncpldpddbjdgaaKLawFnExactNewCollp18
import Derived.Test.YtncpldpddbjdgaaKLawFnExactNewCollp19
import Derived.Test.YtncpldpddbjdgaaKLawFnExactNewCollp20
import Derived.Test.YtncpldpddbjdgaaKLawFnExactNewCollp21
import Derived.Test.YtncpldpddbjdgaaKLawFnExactNewCollp10
import Derived.Test.YtncpldpddbjdgaaKLawFnExactNewCollp11
import Derived.ProofKit
import Derived.OpenShut
import Derived.ShutString
import Derived.ChangeOld
import Derived.SizedLaws
import Derived.Deep.Slices
import Derived.Lib.SmallJoins
section
namespace Go.Proofs.Ytncpldpddbjdgaa.Q
open Go.RowKit Go.Proofs.YtncpldpddbjdgaaW.PrintWords Go.Proofs.YtncpldpddbjdgaaW.PrintLast Go.Proofs.YtncpldpddbjdgaaW.PrintMore
attribute [local go_sem] max2_int min2_int max_two min_two max_three min_three max_four min_four max2_str min2_str str_geq str_gtr str_leq
set_option linter.unusedVariables false
set_option linter.unusedSimpArgs false



def errW : Option Int→Value
 | none => .nilIface
 | some c => .iface 0 (.int .i64 c)
theorem errW_none : errW none = .nilIface:=rfl
theorem errW_some (c : Int) : errW (some c) = .iface 0 (.int .i64 c):=rfl

-- the values' own types
structure S56 where
 f0 : Int
 f1 : Int
 f2 : ByteArray
def z56 : S56:=⟨(0 : Int),(0 : Int),(⟨#[]⟩ : ByteArray)⟩
def k56 : Kd S56:=Kd.iso (Kd.pair (Kd.int .i64) (Kd.pair (Kd.int .i64) Kd.string)) (fun x : S56 => (x.f0,x.f1,x.f2))
def rd_T56 (xs : List S56) (i : Int) : S56:=xs.getD i.toNat z56
structure S58 where
 f0 : Int
 f1 : Bool
 f2 : S56
def z58 : S58:=⟨(0 : Int),false,z56⟩
def k58 : Kd S58:=Kd.iso (Kd.pair (Kd.int .i64) (Kd.pair Kd.bool k56)) (fun x : S58 => (x.f0,x.f1,x.f2))
def rd_T58 (xs : List S58) (i : Int) : S58:=xs.getD i.toNat z58
def rd_L5 (xs : List (List S58)) (i : Int) : (List S58):=xs.getD i.toNat ([] : List S58)
structure S42 where
 f0 : Int
 f1 : (List S58)
def z42 : S42:=⟨(0 : Int),([] : List S58)⟩
def k42 : Kd S42:=Kd.iso (Kd.pair (Kd.int .i64) (Kd.slice 58 k58)) (fun x : S42 => (x.f0,x.f1))
def rd_T42 (xs : List S42) (i : Int) : S42:=xs.getD i.toNat z42
structure S61 where
 f0 : ByteArray
 f1 : Bool
def z61 : S61:=⟨(⟨#[]⟩ : ByteArray),false⟩
def k61 : Kd S61:=Kd.iso (Kd.pair Kd.string Kd.bool) (fun x : S61 => (x.f0,x.f1))
def rd_T61 (xs : List S61) (i : Int) : S61:=xs.getD i.toNat z61
def rd_L8 (xs : List (List S61)) (i : Int) : (List S61):=xs.getD i.toNat ([] : List S61)
structure S46 where
 f0 : ByteArray
 f1 : (List S61)
def z46 : S46:=⟨(⟨#[]⟩ : ByteArray),([] : List S61)⟩
def k46 : Kd S46:=Kd.iso (Kd.pair Kd.string (Kd.slice 61 k61)) (fun x : S46 => (x.f0,x.f1))
def rd_T46 (xs : List S46) (i : Int) : S46:=xs.getD i.toNat z46
abbrev bm_ (i n : Nat) : Array Bool:=(List.replicate i true ++ List.replicate (n - i) false).toArray
abbrev za:=@below_alloc
abbrev zb:=@pw_below_drewN
abbrev zc:=@below_drew1
abbrev zd:=@below_set
abbrev ze:=@blk_drewN
abbrev zf:=@blk_drew
abbrev zg:=@blk_alloc
abbrev zh:=@Aside0.mk
abbrev zi:=@List.setIfInBounds_toArray
abbrev zj:=@List.set_cons_zero
abbrev zk:=@List.set_cons_succ
abbrev zl:=@World.block_lt_of_cell?
abbrev zm:=@Kd.R_alloc
abbrev zn:=@Kd.R_drewN
abbrev zo:=@Kd.R_drew
abbrev zp:=@Kept.drewN
abbrev zq:=@Kept.drew
abbrev zr:=@Kept.alloc
abbrev zs:=@Kept.setCell
abbrev zt:=@List.map_toArray
abbrev zu:=@List.map_cons
abbrev zv:=@List.map_nil
abbrev zw:=@List.length_drop
abbrev zx:=@List.length_take
abbrev zy:=@of_decide_eq_true
abbrev zz:=@blk_cell
abbrev zA:=@blk_frozen
abbrev zB:=@below_size
abbrev zC:=@below_step
abbrev zD:=@blk_below
abbrev zE:=@add_block
abbrev zF:=@i64_w
abbrev zG:=@i32_w
abbrev zH:=@box_event
abbrev zI:=@gate_callee
abbrev zJ:=@gate_dst
abbrev zK:=@blk_put
abbrev zL:=@LeO.none
abbrev zM:=@LeO.bind
abbrev zN:=@LeO.ite
abbrev zO:=@LeO.refl
abbrev zP:=@cell_far
abbrev zQ:=@blk_far
abbrev zR:=@Option.bind_eq_some_iff
abbrev zS:=@Option.some.inj
abbrev zT:=@Int.ofNat_lt
abbrev zU:=@Int.ofNat_le
abbrev zV:=@bne_eq_false_iff_eq
abbrev zW:=@beq_eq_false_iff_ne
abbrev zX:=@bne_iff_ne
abbrev zY:=@beq_iff_eq
abbrev zZ:=@Bool.eq_false_iff
abbrev ya:=@Nat.ne_of_lt
abbrev yb:=@Nat.ne_of_gt
abbrev yc:=@Nat.le_refl
abbrev yd:=@Kd.R_below
abbrev ye:=@Kd.R_reads'
abbrev yf:=@blk_lt
abbrev yg:=@goesL_
abbrev yh:=@Kd.R_slice
abbrev yi:=@KeepBut.set_
abbrev yj:=@keep_drewN
abbrev yk:=@keep_alloc
abbrev yl:=@take_ofW
abbrev ym:=@Drawn0.refl
abbrev yn:=@Drawn0.step
abbrev yo:=@gt_iff_lt
abbrev yp:=@ge_iff_le
abbrev yq:=@errW_none
abbrev yr:=@errW_some
abbrev ys:=@blk_grown
abbrev yt:=@keep_drew
abbrev yu:=@Kd.R_lower
abbrev yv:=@gate_guard
abbrev yw:=@Kept.of_grown
abbrev yx:=@gate_builtin
end Go.Proofs.Ytncpldpddbjdgaa.Q
end
section
namespace Go.Proofs.Ytncpldpddbjdgaa.Q
open Go.RowKit Go.Proofs.YtncpldpddbjdgaaW.PrintWords Go.Proofs.YtncpldpddbjdgaaW.PrintLast Go.Proofs.YtncpldpddbjdgaaW.PrintMore
attribute [local go_sem] max2_int min2_int max_two min_two max_three min_three max_four min_four max2_str min2_str str_geq str_gtr str_leq   -- for this text's walks alone
set_option linter.unusedVariables false
set_option linter.unusedSimpArgs false

def spec_l08New.f (a0 : ByteArray) : Option (ByteArray×(List (S42))×(List (S46))):=some (a0,(([] : List (S42))),(([] : List (S46))))
set_option maxHeartbeats 8000000 in
set_option maxRecDepth 100000 in
theorem spec_l08New.calls (a0 : ByteArray) (r1 : ByteArray) (r2 : List (S42)) (r3 : List (S46)) (w : World) (h : spec_l08New.f a0=some (r1,r2,r3)) :
  Calls Try.prog 10 #[.string a0] w fun e w' => ∃ v1_ v2_ : Value,e = .returned (.agg #[.string r1,v1_,v2_])∧Kd.S k42 42 w' w.heap.size (fun _ => True) v1_ r2∧Kd.S k46 46 w' w.heap.size (fun _ => True) v2_ r3∧Below w.heap.size w w':=by
 have hu25:=Try.underlying25;have HB:=zh (Below.refl w.heap.size w);have H : (some (a0,(([] : List (S42))),(([] : List (S46)))))=some (r1,r2,r3):=h;clear h;obtain ⟨y107,hy107⟩ : ∃ y_ : List (S42),y_=(([] : List (S42))):=⟨_,rfl⟩;replace H : (some (a0,y107,(([] : List (S46)))))=some (r1,r2,r3):=by first|(rw [hy107];with_reducible exact H)|(have H2_:=(Option.bind_some _ _).symm.trans H;rw [hy107];with_reducible exact H2_)|(have H2_:=(Option.bind_some _ _).symm.trans H;with_reducible exact H2_)|with_reducible exact H|(rw [hy107];exact H)|exact H
 have Ny107:=zh hy107;clear hy107;obtain ⟨y110,hy110⟩ : ∃ y_ : List (S46),y_=(([] : List (S46))):=⟨_,rfl⟩;replace H : (some (a0,y107,y110))=some (r1,r2,r3):=by first|(rw [hy110];with_reducible exact H)|(have H2_:=(Option.bind_some _ _).symm.trans H;rw [hy110];with_reducible exact H2_)|(have H2_:=(Option.bind_some _ _).symm.trans H;with_reducible exact H2_)|with_reducible exact H|(rw [hy110];exact H)|exact H
 have Ny110:=zh hy110;clear hy110;simp only [Option.some.injEq,Prod.mk.injEq] at H;obtain ⟨rfl,rfl,rfl⟩:=H
 go_enter Try.func10,Try.ntmps10
 go_wp2_with (first|((with_reducible refine zJ (N:=2) rfl ?_);refine zH ?hg (N:=2) ?hd (cs:=#[.string (⟨#[]⟩ : ByteArray),.slice none 0 0,.slice none 0 0]) (t:=25) ?hr ?_;(case hd => rfl);(case hg => rfl);(case hr => first|(go_simp;done)|(go_simp;rfl));intro gb106 hg w2 hbox hb;have BK106:=zh (hbox);have GW106:=zh ((by rw [hg];exact (zB (by repeat (with_reducible first|exact HB.out|apply za|apply zb|apply zc))) : w.heap.size≤gb106));have GE106:=zh ((by rw [hg];exact (zB (by repeat (with_reducible first|exact HB.out|apply za|apply zb|apply zc))) : w.heap.size≤gb106));replace HB:=zh (zC (by repeat (with_reducible first|exact HB.out|apply za|apply zb|apply zc)) hb);clear hb hbox hg)|((with_reducible refine zJ (N:=4) rfl ?_);refine Kd.S_lit k42 _ 42 ?hg (N:=4) ?hd (xs:=([] : List (S42))) (inner:=[]) (ok:=fun _ => True) (okp:=fun _ => True) ?hr ?hp (fun _ hk => hk) trivial (Below.refl _ _) (yc _) (by simp) ?_;(case hd => rfl);(case hg => rfl);(case hr => first|(go_simp;done)|(go_simp;rfl));(case hp => exact (Reps.none _ _));intro v108 w3 ho4 hb hg_ hnew_;clear hg_ hnew_;(first|rw [← Ny107.out] at ho4|(simp only [Int.reduceToNat] at ho4;rw [← Ny107.out] at ho4));have HO109:=zh (Kd.S_lower ho4 (zB (by repeat (with_reducible first|exact HB.out|apply za|apply zb|apply zc|refine zd ?_ GE106.out))));replace BK106:=zh (zD (g:=gb106) (o:=.cells #[.string (⟨#[]⟩ : ByteArray),.slice none 0 0,.slice none 0 0] 25 (0,0)) (by (with_reducible repeat (first|refine ze ?_ _|refine zf ?_|refine zg ?_ _));exact BK106.out) hb);replace HB:=zh (zC (by repeat (with_reducible first|exact HB.out|apply za|apply zb|apply zc|refine zd ?_ GE106.out)) hb);clear hb ho4)|((with_reducible refine zJ (N:=5) rfl ?_);refine Kd.S_lit k46 _ 46 ?hg (N:=5) ?hd (xs:=([] : List (S46))) (inner:=[]) (ok:=fun _ => True) (okp:=fun _ => True) ?hr ?hp (fun _ hk => hk) trivial (Below.refl _ _) (yc _) (by simp) ?_;(case hd => rfl);(case hg => rfl);(case hr => first|(go_simp;done)|(go_simp;rfl));(case hp => exact (Reps.none _ _));intro v111 w5 ho6 hb hg_ hnew_;clear hg_ hnew_;(first|rw [← Ny110.out] at ho6|(simp only [Int.reduceToNat] at ho6;rw [← Ny110.out] at ho6));replace HO109:=zh (Kd.S_below (by (with_reducible repeat (first|apply Kd.S_alloc|apply Kd.S_drewN|apply Kd.S_drew));exact HO109.out) hb);have HO112:=zh (Kd.S_lower ho6 (zB (by repeat (with_reducible first|exact HB.out|apply za|apply zb|apply zc|refine zd ?_ GE106.out))));replace BK106:=zh (zD (g:=gb106) (o:=.cells #[.string (⟨#[]⟩ : ByteArray),.slice none 0 0,.slice none 0 0] 25 (0,0)) (by (with_reducible repeat (first|refine ze ?_ _|refine zf ?_|refine zg ?_ _));exact BK106.out) hb);replace HB:=zh (zC (by repeat (with_reducible first|exact HB.out|apply za|apply zb|apply zc|refine zd ?_ GE106.out)) hb);clear hb ho6;obtain ⟨Ao7,co7,eo7⟩:=Kd.S_slice HO112.out;subst eo7;obtain ⟨Ao8,co8,eo8⟩:=Kd.S_slice HO109.out;subst eo8;have hcz9_0 : w5.cell? ⟨gb106,0,none⟩=some (.string (⟨#[]⟩ : ByteArray)):=(zz BK106.out 0).trans rfl;have hcz9_1 : w5.cell? ⟨gb106,1,none⟩=some (.slice none 0 0):=(zz BK106.out 1).trans rfl;have hcz9_2 : w5.cell? ⟨gb106,2,none⟩=some (.slice none 0 0):=(zz BK106.out 2).trans rfl;have hfz9_0:=zA BK106.out 0;have hfz9_1:=zA BK106.out 1;have hfz9_2:=zA BK106.out 2))
 refine bodyPost_ret (results_cell_row rfl _ _ gb106 25 #[.string a0,.slice Ao8 y107.length co8,.slice Ao7 y110.length co7] (0,0) _ rfl (by (with_reducible repeat (first|refine ze ?_ _|refine zf ?_|refine zg ?_ _));refine zK (cs:=#[.string a0,.slice Ao8 y107.length co8,.slice none 0 0]) ?_ 2 _ rfl;(with_reducible repeat (first|refine ze ?_ _|refine zf ?_|refine zg ?_ _));refine zK (cs:=#[.string a0,.slice none 0 0,.slice none 0 0]) ?_ 1 _ rfl;(with_reducible repeat (first|refine ze ?_ _|refine zf ?_|refine zg ?_ _));refine zK (cs:=#[.string (⟨#[]⟩ : ByteArray),.slice none 0 0,.slice none 0 0]) ?_ 0 _ rfl;(with_reducible repeat (first|refine ze ?_ _|refine zf ?_|refine zg ?_ _));exact BK106.out) Try.underlying25 rfl (by kernel_rfl)) rfl ?_;exact ⟨_,_,by first|rfl|(simp [yq,yr] <;> rfl)|(simp [*,yq,yr] <;> rfl),by (with_reducible repeat (first|apply Kd.S_alloc|apply Kd.S_drewN|apply Kd.S_drew));exact Kd.S_mono (Kd.S_far (p:=⟨gb106,2,none⟩) (Kd.S_far (p:=⟨gb106,1,none⟩) (Kd.S_far (p:=⟨gb106,0,none⟩) (Kd.S_types HO109.out BK106.out (by decide)) (fun _ hk => hk.2) (.string a0)) (fun _ hk => hk.2) (.slice Ao8 y107.length co8)) (fun _ hk => hk.2) (.slice Ao7 y110.length co7)) (fun _ hk => trivial),by (with_reducible repeat (first|apply Kd.S_alloc|apply Kd.S_drewN|apply Kd.S_drew));exact Kd.S_mono (Kd.S_far (p:=⟨gb106,2,none⟩) (Kd.S_far (p:=⟨gb106,1,none⟩) (Kd.S_far (p:=⟨gb106,0,none⟩) (Kd.S_types HO112.out BK106.out (by decide)) (fun _ hk => hk.2) (.string a0)) (fun _ hk => hk.2) (.slice Ao8 y107.length co8)) (fun _ hk => hk.2) (.slice Ao7 y110.length co7)) (fun _ hk => trivial),by repeat (with_reducible first|exact HB.out|apply za|apply zb|apply zc|refine zd ?_ GE106.out)⟩

end Go.Proofs.Ytncpldpddbjdgaa.Q
end
section
namespace Go.Proofs.Ytncpldpddbjdgaa.Q
open Go.RowKit Go.Proofs.YtncpldpddbjdgaaW.PrintWords Go.Proofs.YtncpldpddbjdgaaW.PrintLast Go.Proofs.YtncpldpddbjdgaaW.PrintMore
attribute [local go_sem] max2_int min2_int max_two min_two max_three min_three max_four min_four max2_str min2_str str_geq str_gtr str_leq   -- for this text's walks alone
set_option linter.unusedVariables false
set_option linter.unusedSimpArgs false

def spec_l00Letter.f (a0 : Int) : Option (Bool):=if a0 ≥ 97 then (if a0≤122 then (some true) else (if a0 ≥ 65 then (if a0≤90 then (some true) else (some (a0 == 95))) else (some (a0 == 95)))) else (if a0 ≥ 65 then (if a0≤90 then (some true) else (some (a0 == 95))) else (some (a0 == 95)))
set_option maxHeartbeats 8000000 in
set_option maxRecDepth 100000 in
theorem spec_l00Letter.calls (a0 : Int) (r : Bool) (w : World) (h : spec_l00Letter.f a0=some r) :
  Calls Try.prog 37 #[.int .u8 a0] w fun e w' => e = .returned (.bool r)∧Drawn0 w w':=by
 have H : (if a0 ≥ 97 then (if a0≤122 then (some true) else (if a0 ≥ 65 then (if a0≤90 then (some true) else (some (a0 == 95))) else (some (a0 == 95)))) else (if a0 ≥ 65 then (if a0≤90 then (some true) else (some (a0 == 95))) else (some (a0 == 95))))=some r:=h;clear h
 by_cases c2 : a0 ≥ 97
 ·
  rw [if_pos c2] at H
  have c2b0 : decide (97≤a0)=true:=decide_eq_true c2;clear c2
  by_cases c3 : a0≤122
  ·
   rw [if_pos c3] at H
   have c3b0 : decide (a0≤122)=true:=decide_eq_true c3;clear c3;obtain rfl:=zS H
   go_enter Try.func37,Try.ntmps37
   go_wp2
   go_ret
   exact ⟨by first|rfl|(simp;done)|(simp [*];done),by repeat (first|exact ym _|apply yn)⟩
  rw [if_neg c3] at H;have c3b0 : decide (a0≤122)=false:=decide_eq_false c3;clear c3
  by_cases c4 : a0 ≥ 65
  ·
   rw [if_pos c4] at H
   have c4b0 : decide (65≤a0)=true:=decide_eq_true c4;clear c4
   by_cases c5 : a0≤90
   ·
    rw [if_pos c5] at H
    have c5b0 : decide (a0≤90)=true:=decide_eq_true c5;clear c5;obtain rfl:=zS H
    go_enter Try.func37,Try.ntmps37
    go_wp2
    go_ret
    exact ⟨by first|rfl|(simp;done)|(simp [*];done),by repeat (first|exact ym _|apply yn)⟩
   rw [if_neg c5] at H;have c5b0 : decide (a0≤90)=false:=decide_eq_false c5;clear c5;obtain rfl:=zS H
   go_enter Try.func37,Try.ntmps37
   go_wp2
   go_ret
   exact ⟨by first|rfl|(simp;done)|(simp [*];done),by repeat (first|exact ym _|apply yn)⟩
  rw [if_neg c4] at H;have c4b0 : decide (65≤a0)=false:=decide_eq_false c4;clear c4;obtain rfl:=zS H
  go_enter Try.func37,Try.ntmps37
  go_wp2
  go_ret
  exact ⟨by first|rfl|(simp;done)|(simp [*];done),by repeat (first|exact ym _|apply yn)⟩
 rw [if_neg c2] at H;have c2b0 : decide (97≤a0)=false:=decide_eq_false c2;clear c2
 by_cases c6 : a0 ≥ 65
 ·
  rw [if_pos c6] at H
  have c6b0 : decide (65≤a0)=true:=decide_eq_true c6;clear c6
  by_cases c7 : a0≤90
  ·
   rw [if_pos c7] at H
   have c7b0 : decide (a0≤90)=true:=decide_eq_true c7;clear c7;obtain rfl:=zS H
   go_enter Try.func37,Try.ntmps37
   go_wp2
   go_ret
   exact ⟨by first|rfl|(simp;done)|(simp [*];done),by repeat (first|exact ym _|apply yn)⟩
  rw [if_neg c7] at H;have c7b0 : decide (a0≤90)=false:=decide_eq_false c7;clear c7;obtain rfl:=zS H
  go_enter Try.func37,Try.ntmps37
  go_wp2
  go_ret
  exact ⟨by first|rfl|(simp;done)|(simp [*];done),by repeat (first|exact ym _|apply yn)⟩
 rw [if_neg c6] at H;have c6b0 : decide (65≤a0)=false:=decide_eq_false c6;clear c6;obtain rfl:=zS H
 go_enter Try.func37,Try.ntmps37
 go_wp2
 go_ret
 exact ⟨by first|rfl|(simp;done)|(simp [*];done),by repeat (first|exact ym _|apply yn)⟩

end Go.Proofs.Ytncpldpddbjdgaa.Q
end
section
namespace Go.Proofs.Ytncpldpddbjdgaa.Q
open Go.RowKit Go.Proofs.YtncpldpddbjdgaaW.PrintWords Go.Proofs.YtncpldpddbjdgaaW.PrintLast Go.Proofs.YtncpldpddbjdgaaW.PrintMore
attribute [local go_sem] max2_int min2_int max_two min_two max_three min_three max_four min_four max2_str min2_str str_geq str_gtr str_leq   -- for this text's walks alone
set_option linter.unusedVariables false
set_option linter.unusedSimpArgs false

def spec_l00Digit.f (a0 : Int) : Option (Bool):=if a0 ≥ 48 then (some (decide (a0≤57))) else (some false)
set_option maxHeartbeats 8000000 in
set_option maxRecDepth 100000 in
theorem spec_l00Digit.calls (a0 : Int) (r : Bool) (w : World) (h : spec_l00Digit.f a0=some r) :
  Calls Try.prog 38 #[.int .u8 a0] w fun e w' => e = .returned (.bool r)∧Drawn0 w w':=by
 have H : (if a0 ≥ 48 then (some (decide (a0≤57))) else (some false))=some r:=h;clear h
 by_cases c2 : a0 ≥ 48
 ·
  rw [if_pos c2] at H
  have c2b0 : decide (48≤a0)=true:=decide_eq_true c2;clear c2;obtain rfl:=zS H
  go_enter Try.func38,Try.ntmps38
  go_wp2
  go_ret
  exact ⟨by first|rfl|(simp;done)|(simp [*];done),by repeat (first|exact ym _|apply yn)⟩
 rw [if_neg c2] at H;have c2b0 : decide (48≤a0)=false:=decide_eq_false c2;clear c2;obtain rfl:=zS H
 go_enter Try.func38,Try.ntmps38
 go_wp2
 go_ret
 exact ⟨by first|rfl|(simp;done)|(simp [*];done),by repeat (first|exact ym _|apply yn)⟩

end Go.Proofs.Ytncpldpddbjdgaa.Q
end
section
namespace Go.Proofs.Ytncpldpddbjdgaa.Q
open Go.RowKit Go.Proofs.YtncpldpddbjdgaaW.PrintWords Go.Proofs.YtncpldpddbjdgaaW.PrintLast Go.Proofs.YtncpldpddbjdgaaW.PrintMore
attribute [local go_sem] max2_int min2_int max_two min_two max_three min_three max_four min_four max2_str min2_str str_geq str_gtr str_leq   -- for this text's walks alone
set_option linter.unusedVariables false
set_option linter.unusedSimpArgs false

mutual
def spec_l00Word.j0 : Nat→ByteArray→Bool→Option (Bool)
 | 0,_,_ => none
 | k + 1,x0,x17 => if x17=true then (some false) else (spec_l00Word.l0 k x0 1)
def spec_l00Word.l0 : Nat→ByteArray→Int→Option (Bool)
 | 0,_,_ => none
 | k + 1,x0,x3 => if x3<(x0.size : Int) then (if 0≤x3 then ((spec_l00Letter.f (bt x0 x3)).bind fun t102 => (if t102=true then (spec_l00Word.l0 k x0 (wrap64 (x3 + 1))) else ((spec_l00Digit.f (bt x0 x3)).bind fun t103 => (if t103=true then (spec_l00Word.l0 k x0 (wrap64 (x3 + 1))) else (some false))))) else (none)) else (some true)
end
def spec_l00Word.f (k : Nat) (a0 : ByteArray) : Option (Bool):=if (a0.size : Int)<1 then (spec_l00Word.j0 k a0 true) else (if (a0.size : Int) > 40 then (spec_l00Word.j0 k a0 true) else (if 0<(a0.size : Int) then ((spec_l00Letter.f (bt a0 0)).bind fun t101 => (spec_l00Word.j0 k a0 (!t101))) else (none)))
theorem spec_l00Word.mono_l : ∀ k,(∀ y0 y1,LeO (spec_l00Word.j0 k y0 y1) (spec_l00Word.j0 (k + 1) y0 y1))∧(∀ y0 y1,LeO (spec_l00Word.l0 k y0 y1) (spec_l00Word.l0 (k + 1) y0 y1))
 | 0 => ⟨fun _ _ r h => by simp [spec_l00Word.j0] at h,fun _ _ r h => by simp [spec_l00Word.l0] at h⟩
 | k + 1 => by
  obtain ⟨ih0,ih1⟩:=spec_l00Word.mono_l k;refine ⟨?_,?_⟩
  ·
   intro y0 y1
   unfold spec_l00Word.j0
   repeat' first|(with_reducible exact ih0 _ _)|(with_reducible exact ih1 _ _)|(with_reducible exact zO _)|(with_reducible exact zL _)|(with_reducible refine zN ?_ ?_)|(with_reducible refine zM ?_ (fun _ => ?_))|refine zN ?_ ?_|refine zM ?_ (fun _ => ?_)
  intro y0 y1;unfold spec_l00Word.l0
  repeat' first|(with_reducible exact ih0 _ _)|(with_reducible exact ih1 _ _)|(with_reducible exact zO _)|(with_reducible exact zL _)|(with_reducible refine zN ?_ ?_)|(with_reducible refine zM ?_ (fun _ => ?_))|refine zN ?_ ?_|refine zM ?_ (fun _ => ?_)
theorem spec_l00Word.mono : ∀ a0 k,LeO (spec_l00Word.f k a0) (spec_l00Word.f (k + 1) a0):=by
 intro a0 k;obtain ⟨ih0,ih1⟩:=spec_l00Word.mono_l k;unfold spec_l00Word.f
 repeat' first|(with_reducible exact ih0 _ _)|(with_reducible exact ih1 _ _)|(with_reducible exact zO _)|(with_reducible exact zL _)|(with_reducible refine zN ?_ ?_)|(with_reducible refine zM ?_ (fun _ => ?_))|refine zN ?_ ?_|refine zM ?_ (fun _ => ?_)
set_option maxHeartbeats 8000000 in
set_option maxRecDepth 100000 in
theorem spec_l00Word.calls (k : Nat) (a0 : ByteArray) (r : Bool) (w : World) (h : spec_l00Word.f k a0=some r) :
  Calls Try.prog 30 #[.string a0] w fun e w' => e = .returned (.bool r)∧Drawn0 w w':=by
 have H : (if (a0.size : Int)<1 then (spec_l00Word.j0 k a0 true) else (if (a0.size : Int) > 40 then (spec_l00Word.j0 k a0 true) else (if 0<(a0.size : Int) then ((spec_l00Letter.f (bt a0 0)).bind fun t101 => (spec_l00Word.j0 k a0 (!t101))) else (none))))=some r:=h;clear h;have HC2:=zh H;clear H
 go_enter Try.func30,Try.ntmps30
 go_upto_region 1 with (fail)
 go_cut [17] (fun v17 wc => ∃ (kq : Nat) (x17_1 : Bool),v17 = .bool x17_1∧Aside0 (spec_l00Word.j0 kq a0 x17_1=some r)∧Aside0 (kq≤k)∧Drawn0 w wc)
 case first =>
  have H:=HC2.out;clear HC2
  by_cases c3 : (a0.size : Int)<1
  ·
   rw [if_pos c3] at H
   have c3b0 : decide ((a0.size : Int)<1)=true:=decide_eq_true c3;have c3b1 : decide (a0.size<1)=true:=decide_eq_true (by omega);clear c3;(first|rw [c3b0]|(simp only [zF,zG];rw [c3b0])|skip);have H':=zh H;clear H
   go_wp2
   go_meet
   case rel => exact ⟨_,(true),(by first|rfl|(simp;done)|(simp [*];done)),H',⟨by first|omega|exact yc _⟩,by repeat (first|exact ym _|apply yn)⟩
  rw [if_neg c3] at H;have c3b0 : decide ((a0.size : Int)<1)=false:=decide_eq_false c3;have c3b1 : decide (a0.size<1)=false:=decide_eq_false (by omega);clear c3;(first|rw [c3b0]|(simp only [zF,zG];rw [c3b0])|skip)
  by_cases c4 : (a0.size : Int) > 40
  ·
   rw [if_pos c4] at H
   have c4b0 : decide (40<(a0.size : Int))=true:=decide_eq_true c4;have c4b1 : decide (40<a0.size)=true:=decide_eq_true (by omega);clear c4;have H':=zh H;clear H
   go_wp2
   go_meet
   case rel => exact ⟨_,(true),(by first|rfl|(simp;done)|(simp [*];done)),H',⟨by first|omega|exact yc _⟩,by repeat (first|exact ym _|apply yn)⟩
  rw [if_neg c4] at H;have c4b0 : decide (40<(a0.size : Int))=false:=decide_eq_false c4;have c4b1 : decide (40<a0.size)=false:=decide_eq_false (by omega);clear c4
  by_cases c5 : 0<(a0.size : Int)
  ·
   rw [if_pos c5] at H
   have c5b0 : decide (0<(a0.size : Int))=true:=decide_eq_true c5;have c5b1 : decide (0<a0.size)=true:=decide_eq_true (by omega);clear c5;replace H:=zR.mp H;obtain ⟨t101,A70,H⟩:=H;replace H : (spec_l00Word.j0 k a0 (!t101))=some r:=H;have A7:=zh A70;clear A70;have H':=zh H;clear H;have p6 : 0≤(0 : Int):=(by omega);have q6 : 0<a0.size:=(by have : (0 : Int)<(a0.size : Int):=zy (by first|(with_reducible assumption)|assumption);omega);have hx6 : ∀ h : 0<a0.size,((a0[0]'h).toNat : Int)=bt a0 0:=bt_at a0 0;clear p6;have qi6 : (0<(a0.size : Int))=True:=eq_true (zy (by first|(with_reducible assumption)|assumption));replace q6:=eq_true q6
   go_wp2_with (first|(go_at_call 37;(with_reducible refine (spec_l00Letter.calls  (bt a0 0) t101 _ A7.out).mono ?_);rintro e w' ⟨rfl,⟨nd,rfl⟩⟩))
   go_meet
   case rel => exact ⟨_,(!t101),(by first|rfl|(simp;done)|(simp [*];done)),H',⟨by first|omega|exact yc _⟩,by repeat (first|exact ym _|apply yn)⟩
  rw [if_neg c5] at H;exact absurd H (by simp)
 case rest =>
  clear HC2
  try clear p2
  try clear c3
  try clear c3b0
  try clear c3b1
  try clear c4
  try clear c4b0
  try clear c4b1
  try clear c5
  try clear c5b0
  try clear c5b1
  try clear p6
  try clear q6
  try clear hx6
  try clear qi6
  try clear p6
  try clear q6
  obtain ⟨kq,x17_1,rfl,HA,HJ1,⟨mc1,rfl⟩⟩:=hcut
  cases kq with
  | zero => exact absurd HA.out (by simp [spec_l00Word.j0])
  | succ kj1 =>
   have H:=HA.out;clear HA;simp only [spec_l00Word.j0] at H
   by_cases c8 : x17_1=true
   ·
    subst c8
    have H1 : (some false)=some r:=by rw [if_pos rfl] at H;exact H
    clear H;have H:=H1;clear H1;obtain rfl:=zS H
    go_wp2
    go_ret
    exact ⟨by first|rfl|(simp;done)|(simp [*];done),by repeat (first|exact ym _|apply yn)⟩
   replace c8:=zZ.mpr c8;subst c8;have H1 : (spec_l00Word.l0 kj1 a0 1)=some r:=by rw [if_neg (show ¬ (false=true) by decide)] at H;exact H
   clear H;have H:=H1;clear H1;have H':=zh H;clear H
   go_wp2
   go_loopg [3] kj1 (fun kq v3 w' => ∃ (x3_2 : Int),v3 = .int .i64 x3_2∧Aside0 (spec_l00Word.l0 kq a0 x3_2=some r)∧Aside0 (kq≤kj1)∧Drawn0 w w')
   case atStart => exact ⟨(1),(by first|rfl|(simp;done)|(simp [*];done)),H',⟨yc _⟩,by repeat (first|exact ym _|apply yn)⟩
   case round =>
    clear H'
    try clear c1
    try clear p2
    try clear c3
    try clear c3b0
    try clear c3b1
    try clear c4
    try clear c4b0
    try clear c4b1
    try clear c5
    try clear c5b0
    try clear c5b1
    try clear p6
    try clear q6
    try clear hx6
    try clear qi6
    try clear c8
    try clear p2
    try clear p6
    try clear q6
    obtain ⟨x3_2,rfl,HA,HK2,⟨m2,rfl⟩⟩:=hrel
    cases gk with
    | zero => exact absurd HA.out (by simp [spec_l00Word.l0])
    | succ k2 =>
     have H:=HA.out;clear HA;simp only [spec_l00Word.l0] at H
     by_cases c9 : x3_2<(a0.size : Int)
     ·
      rw [if_pos c9] at H
      have c9b0 : decide (x3_2<(a0.size : Int))=true:=decide_eq_true c9;clear c9
      by_cases c10 : 0≤x3_2
      ·
       rw [if_pos c10] at H
       have c10b0 : decide (0≤x3_2)=true:=decide_eq_true c10;clear c10;replace H:=zR.mp H;obtain ⟨t102,A120,H⟩:=H;replace H : (if t102=true then (spec_l00Word.l0 k2 a0 (wrap64 (x3_2 + 1))) else ((spec_l00Digit.f (bt a0 x3_2)).bind fun t103 => (if t103=true then (spec_l00Word.l0 k2 a0 (wrap64 (x3_2 + 1))) else (some false))))=some r:=H;have A12:=zh A120;clear A120
       by_cases c13 : t102=true
       ·
        subst c13
        have H1 : (spec_l00Word.l0 k2 a0 (wrap64 (x3_2 + 1)))=some r:=by rw [if_pos rfl] at H;exact H
        clear H;have H:=H1;clear H1;have H':=zh H;clear H;have p11 : 0≤(x3_2 : Int):=zy (by first|(with_reducible assumption)|assumption);have q11 : x3_2<(a0.size : Int):=zy (by first|(with_reducible assumption)|assumption);have hx11:=bt_at a0 x3_2;replace p11:=eq_true p11;replace q11:=eq_true q11
        go_wp2_with (first|((with_reducible refine zI (f:=37) rfl ?_);refine yg (some 27) rfl rfl Try.func37 (by kernel_rfl) rfl #[.int .u8 (bt a0 x3_2)] rfl (by (try simp only [zt,zu,zv]);first|done|rfl|(simp only [zw,zx];rfl)|(simp only [yo,yp,zT,zU];rfl)) ?_;(with_reducible refine (spec_l00Letter.calls  (bt a0 x3_2) true _ A12.out).mono ?_);rintro e w' ⟨rfl,⟨nd,rfl⟩⟩;refine ⟨_,rfl,?_⟩))
        go_roundg k2
        case measure => have:=HJ1.out;have:=HK2.out;omega
        case rel => exact ⟨(wrap64 (x3_2 + 1)),(by first|rfl|(simp;done)|(simp [*];done)),H',⟨by have:=HJ1.out;have:=HK2.out;omega⟩,by repeat (first|exact ym _|apply yn)⟩
       replace c13:=zZ.mpr c13;subst c13;have H1 : ((spec_l00Digit.f (bt a0 x3_2)).bind fun t103 => (if t103=true then (spec_l00Word.l0 k2 a0 (wrap64 (x3_2 + 1))) else (some false)))=some r:=by rw [if_neg (show ¬ (false=true) by decide)] at H;exact H
       clear H;have H:=H1;clear H1;replace H:=zR.mp H;obtain ⟨t103,A150,H⟩:=H;replace H : (if t103=true then (spec_l00Word.l0 k2 a0 (wrap64 (x3_2 + 1))) else (some false))=some r:=H;have A15:=zh A150;clear A150
       by_cases c16 : t103=true
       ·
        subst c16
        have H1 : (spec_l00Word.l0 k2 a0 (wrap64 (x3_2 + 1)))=some r:=by rw [if_pos rfl] at H;exact H
        clear H;have H:=H1;clear H1;have H':=zh H;clear H;have p11 : 0≤(x3_2 : Int):=zy (by first|(with_reducible assumption)|assumption);have q11 : x3_2<(a0.size : Int):=zy (by first|(with_reducible assumption)|assumption);have hx11:=bt_at a0 x3_2;replace p11:=eq_true p11;replace q11:=eq_true q11
        go_wp2_with (first|((with_reducible refine zI (f:=37) rfl ?_);refine yg (some 27) rfl rfl Try.func37 (by kernel_rfl) rfl #[.int .u8 (bt a0 x3_2)] rfl (by (try simp only [zt,zu,zv]);first|done|rfl|(simp only [zw,zx];rfl)|(simp only [yo,yp,zT,zU];rfl)) ?_;(with_reducible refine (spec_l00Letter.calls  (bt a0 x3_2) false _ A12.out).mono ?_);rintro e w' ⟨rfl,⟨nd,rfl⟩⟩;refine ⟨_,rfl,?_⟩;have p14 : 0≤(x3_2 : Int):=zy (by first|(with_reducible assumption)|assumption);have q14 : x3_2<(a0.size : Int):=zy (by first|(with_reducible assumption)|assumption);have hx14:=bt_at a0 x3_2;replace p14:=eq_true p14;replace q14:=eq_true q14)|(go_at_call 38;(with_reducible refine (spec_l00Digit.calls  (bt a0 x3_2) true _ A15.out).mono ?_);rintro e w' ⟨rfl,⟨nd,rfl⟩⟩))
        go_roundg k2
        case measure => have:=HJ1.out;have:=HK2.out;omega
        case rel => exact ⟨(wrap64 (x3_2 + 1)),(by first|rfl|(simp;done)|(simp [*];done)),H',⟨by have:=HJ1.out;have:=HK2.out;omega⟩,by repeat (first|exact ym _|apply yn)⟩
       replace c16:=zZ.mpr c16;subst c16;have H1 : (some false)=some r:=by rw [if_neg (show ¬ (false=true) by decide)] at H;exact H
       clear H;have H:=H1;clear H1;obtain rfl:=zS H;have p11 : 0≤(x3_2 : Int):=zy (by first|(with_reducible assumption)|assumption);have q11 : x3_2<(a0.size : Int):=zy (by first|(with_reducible assumption)|assumption);have hx11:=bt_at a0 x3_2;replace p11:=eq_true p11;replace q11:=eq_true q11
       go_wp2_with (first|((with_reducible refine zI (f:=37) rfl ?_);refine yg (some 27) rfl rfl Try.func37 (by kernel_rfl) rfl #[.int .u8 (bt a0 x3_2)] rfl (by (try simp only [zt,zu,zv]);first|done|rfl|(simp only [zw,zx];rfl)|(simp only [yo,yp,zT,zU];rfl)) ?_;(with_reducible refine (spec_l00Letter.calls  (bt a0 x3_2) false _ A12.out).mono ?_);rintro e w' ⟨rfl,⟨nd,rfl⟩⟩;refine ⟨_,rfl,?_⟩;have p14 : 0≤(x3_2 : Int):=zy (by first|(with_reducible assumption)|assumption);have q14 : x3_2<(a0.size : Int):=zy (by first|(with_reducible assumption)|assumption);have hx14:=bt_at a0 x3_2;replace p14:=eq_true p14;replace q14:=eq_true q14)|(go_at_call 38;(with_reducible refine (spec_l00Digit.calls  (bt a0 x3_2) false _ A15.out).mono ?_);rintro e w' ⟨rfl,⟨nd,rfl⟩⟩))
       go_ret
       exact ⟨by first|rfl|(simp;done)|(simp [*];done),by repeat (first|exact ym _|apply yn)⟩
      rw [if_neg c10] at H;exact absurd H (by simp)
     rw [if_neg c9] at H;have c9b0 : decide (x3_2<(a0.size : Int))=false:=decide_eq_false c9;clear c9;obtain rfl:=zS H
     go_wp2
     go_ret
     exact ⟨by first|rfl|(simp;done)|(simp [*];done),by repeat (first|exact ym _|apply yn)⟩

end Go.Proofs.Ytncpldpddbjdgaa.Q
end
section
namespace Go.Proofs.Ytncpldpddbjdgaa.Q
open Go.RowKit Go.Proofs.YtncpldpddbjdgaaW.PrintWords Go.Proofs.YtncpldpddbjdgaaW.PrintLast Go.Proofs.YtncpldpddbjdgaaW.PrintMore
attribute [local go_sem] max2_int min2_int max_two min_two max_three min_three max_four min_four max2_str min2_str str_geq str_gtr str_leq   -- for this text's walks alone
set_option linter.unusedVariables false
set_option linter.unusedSimpArgs false

def spec_NameOK.f (k : Nat) (a0 : ByteArray) : Option (Bool):=(spec_l00Word.f k a0).bind fun t104 => (some t104)
theorem spec_NameOK.mono : ∀ a0 k,LeO (spec_NameOK.f k a0) (spec_NameOK.f (k + 1) a0):=by
 intro a0 k;unfold spec_NameOK.f
 repeat' first|(with_reducible exact spec_l00Word.mono _ _)|(with_reducible exact zO _)|(with_reducible exact zL _)|(with_reducible refine zN ?_ ?_)|(with_reducible refine zM ?_ (fun _ => ?_))|refine zN ?_ ?_|refine zM ?_ (fun _ => ?_)
set_option maxHeartbeats 8000000 in
set_option maxRecDepth 100000 in
theorem spec_NameOK.calls (k : Nat) (a0 : ByteArray) (r : Bool) (w : World) (h : spec_NameOK.f k a0=some r) :
  Calls Try.prog 19 #[.string a0] w fun e w' => e = .returned (.bool r)∧Drawn0 w w':=by
 have H : ((spec_l00Word.f k a0).bind fun t104 => (some t104))=some r:=h;clear h;replace H:=zR.mp H;obtain ⟨t104,A20,H⟩:=H;replace H : (some t104)=some r:=H;have A2:=zh A20;clear A20;obtain rfl:=zS H
 go_enter Try.func19,Try.ntmps19
 go_wp2_with (first|((with_reducible refine zI (f:=30) rfl ?_);refine yg (some 4) rfl rfl Try.func30 (by kernel_rfl) rfl #[.string a0] rfl (by (try simp only [zt,zu,zv]);first|done|rfl|(simp only [zw,zx];rfl)|(simp only [yo,yp,zT,zU];rfl)) ?_;(with_reducible refine (spec_l00Word.calls k  a0 t104 _ A2.out).mono ?_);rintro e w' ⟨rfl,⟨nd,rfl⟩⟩;refine ⟨_,rfl,?_⟩))
 go_ret
 exact ⟨by first|rfl|(simp;done)|(simp [*];done),by repeat (first|exact ym _|apply yn)⟩

end Go.Proofs.Ytncpldpddbjdgaa.Q
end
section
namespace Go.Proofs.Ytncpldpddbjdgaa.Q
open Go.RowKit Go.Proofs.YtncpldpddbjdgaaW.PrintWords Go.Proofs.YtncpldpddbjdgaaW.PrintLast Go.Proofs.YtncpldpddbjdgaaW.PrintMore
attribute [local go_sem] max2_int min2_int max_two min_two max_three min_three max_four min_four max2_str min2_str str_geq str_gtr str_leq   -- for this text's walks alone
set_option linter.unusedVariables false
set_option linter.unusedSimpArgs false

def spec_l01Name.f (k : Nat) (a0 : ByteArray) : Option (Bool):=(spec_NameOK.f k a0).bind fun t105 => (if t105=true then (some (decide ((a0.size : Int)≤12))) else (some false))
theorem spec_l01Name.mono : ∀ a0 k,LeO (spec_l01Name.f k a0) (spec_l01Name.f (k + 1) a0):=by
 intro a0 k;unfold spec_l01Name.f
 repeat' first|(with_reducible exact spec_NameOK.mono _ _)|(with_reducible exact zO _)|(with_reducible exact zL _)|(with_reducible refine zN ?_ ?_)|(with_reducible refine zM ?_ (fun _ => ?_))|refine zN ?_ ?_|refine zM ?_ (fun _ => ?_)
set_option maxHeartbeats 8000000 in
set_option maxRecDepth 100000 in
theorem spec_l01Name.calls (k : Nat) (a0 : ByteArray) (r : Bool) (w : World) (h : spec_l01Name.f k a0=some r) :
  Calls Try.prog 9 #[.string a0] w fun e w' => e = .returned (.bool r)∧Drawn0 w w':=by
 have H : ((spec_NameOK.f k a0).bind fun t105 => (if t105=true then (some (decide ((a0.size : Int)≤12))) else (some false)))=some r:=h;clear h;replace H:=zR.mp H;obtain ⟨t105,A20,H⟩:=H;replace H : (if t105=true then (some (decide ((a0.size : Int)≤12))) else (some false))=some r:=H;have A2:=zh A20;clear A20
 by_cases c3 : t105=true
 ·
  subst c3
  have H1 : (some (decide ((a0.size : Int)≤12)))=some r:=by rw [if_pos rfl] at H;exact H
  clear H;have H:=H1;clear H1;obtain rfl:=zS H
  go_enter Try.func9,Try.ntmps9
  go_wp2_with (first|((with_reducible refine zI (f:=19) rfl ?_);refine yg (some 4) rfl rfl Try.func19 (by kernel_rfl) rfl #[.string a0] rfl (by (try simp only [zt,zu,zv]);first|done|rfl|(simp only [zw,zx];rfl)|(simp only [yo,yp,zT,zU];rfl)) ?_;(with_reducible refine (spec_NameOK.calls k  a0 true _ A2.out).mono ?_);rintro e w' ⟨rfl,⟨nd,rfl⟩⟩;refine ⟨_,rfl,?_⟩))
  go_ret
  exact ⟨by first|rfl|(simp;done)|(simp [*];done),by repeat (first|exact ym _|apply yn)⟩
 replace c3:=zZ.mpr c3;subst c3;have H1 : (some false)=some r:=by rw [if_neg (show ¬ (false=true) by decide)] at H;exact H
 clear H;have H:=H1;clear H1;obtain rfl:=zS H
 go_enter Try.func9,Try.ntmps9
 go_wp2_with (first|((with_reducible refine zI (f:=19) rfl ?_);refine yg (some 4) rfl rfl Try.func19 (by kernel_rfl) rfl #[.string a0] rfl (by (try simp only [zt,zu,zv]);first|done|rfl|(simp only [zw,zx];rfl)|(simp only [yo,yp,zT,zU];rfl)) ?_;(with_reducible refine (spec_NameOK.calls k  a0 false _ A2.out).mono ?_);rintro e w' ⟨rfl,⟨nd,rfl⟩⟩;refine ⟨_,rfl,?_⟩))
 go_ret
 exact ⟨by first|rfl|(simp;done)|(simp [*];done),by repeat (first|exact ym _|apply yn)⟩

end Go.Proofs.Ytncpldpddbjdgaa.Q
end
section
namespace Go.Proofs.Ytncpldpddbjdgaa.Q
open Go.RowKit Go.Proofs.YtncpldpddbjdgaaW.PrintWords Go.Proofs.YtncpldpddbjdgaaW.PrintLast Go.Proofs.YtncpldpddbjdgaaW.PrintMore
attribute [local go_sem] max2_int min2_int max_two min_two max_three min_three max_four min_four max2_str min2_str str_geq str_gtr str_leq   -- for this text's walks alone
set_option linter.unusedVariables false
set_option linter.unusedSimpArgs false

def spec_NewColl.f (k : Nat) (a0 : ByteArray) : Option (ByteArray×(List (S42))×(List (S46))×Int):=if (a0.size : Int) > 65536 then (some ((⟨#[]⟩ : ByteArray),([] : List (S42)),([] : List (S46)),2)) else ((spec_l01Name.f k a0).bind fun t114 => (if t114=true then ((spec_l08New.f a0).bind fun bt115 => (some (bt115.1,bt115.2.1,bt115.2.2,0))) else (some ((⟨#[]⟩ : ByteArray),([] : List (S42)),([] : List (S46)),11))))
theorem spec_NewColl.mono : ∀ a0 k,LeO (spec_NewColl.f k a0) (spec_NewColl.f (k + 1) a0):=by
 intro a0 k;unfold spec_NewColl.f
 repeat' first|(with_reducible exact spec_l01Name.mono _ _)|(with_reducible exact zO _)|(with_reducible exact zL _)|(with_reducible refine zN ?_ ?_)|(with_reducible refine zM ?_ (fun _ => ?_))|refine zN ?_ ?_|refine zM ?_ (fun _ => ?_)
set_option maxHeartbeats 8000000 in
set_option maxRecDepth 100000 in
theorem spec_NewColl.calls (k : Nat) (a0 : ByteArray) (r1 : ByteArray) (r2 : List (S42)) (r3 : List (S46)) (r4 : Int) (w : World) (h : spec_NewColl.f k a0=some (r1,r2,r3,r4)) :
  Calls Try.prog 4 #[.string a0] w fun e w' => ∃ v1_ v2_ : Value,e = .returned (.tuple #[.agg #[.string r1,v1_,v2_],.int .i64 r4])∧Kd.S k42 42 w' w.heap.size (fun _ => True) v1_ r2∧Kd.S k46 46 w' w.heap.size (fun _ => True) v2_ r3∧Below w.heap.size w w':=by
 have hu25:=Try.underlying25;have HB:=zh (Below.refl w.heap.size w);have H : (if (a0.size : Int) > 65536 then (some ((⟨#[]⟩ : ByteArray),([] : List (S42)),([] : List (S46)),2)) else ((spec_l01Name.f k a0).bind fun t114 => (if t114=true then ((spec_l08New.f a0).bind fun bt115 => (some (bt115.1,bt115.2.1,bt115.2.2,0))) else (some ((⟨#[]⟩ : ByteArray),([] : List (S42)),([] : List (S46)),11)))))=some (r1,r2,r3,r4):=h;clear h
 by_cases c2 : (a0.size : Int) > 65536
 ·
  rw [if_pos c2] at H
  have c2b0 : decide (65536<(a0.size : Int))=true:=decide_eq_true c2;have c2b1 : decide (65536<a0.size)=true:=decide_eq_true (by omega);clear c2;simp only [Option.some.injEq,Prod.mk.injEq] at H;obtain ⟨rfl,rfl,rfl,rfl⟩:=H
  go_enter Try.func4,Try.ntmps4
  go_wp2_with (first|((with_reducible refine zJ (N:=2) rfl ?_);refine zH ?hg (N:=2) ?hd (cs:=#[.string (⟨#[]⟩ : ByteArray),.slice none 0 0,.slice none 0 0]) (t:=25) ?hr ?_;(case hd => rfl);(case hg => rfl);(case hr => first|(go_simp;done)|(go_simp;rfl));intro gb113 hg w3 hbox hb;have BK113:=zh (hbox);have GW113:=zh ((by rw [hg];exact (zB (by repeat (with_reducible first|exact HB.out|apply za|apply zb|apply zc))) : w.heap.size≤gb113));have GE113:=zh ((by rw [hg];exact (zB (by repeat (with_reducible first|exact HB.out|apply za|apply zb|apply zc))) : w.heap.size≤gb113));replace HB:=zh (zC (by repeat (with_reducible first|exact HB.out|apply za|apply zb|apply zc)) hb);clear hb hbox hg;have hcz4_0 : w3.cell? ⟨gb113,0,none⟩=some (.string (⟨#[]⟩ : ByteArray)):=(zz BK113.out 0).trans rfl;have hcz4_1 : w3.cell? ⟨gb113,1,none⟩=some (.slice none 0 0):=(zz BK113.out 1).trans rfl;have hcz4_2 : w3.cell? ⟨gb113,2,none⟩=some (.slice none 0 0):=(zz BK113.out 2).trans rfl;have hfz4_0:=zA BK113.out 0;have hfz4_1:=zA BK113.out 1;have hfz4_2:=zA BK113.out 2))
  refine bodyPost_ret (results_ct rfl _ _ gb113 25 #[.string (⟨#[]⟩ : ByteArray),.slice none 0 0,.slice none 0 0] (0,0) _ rfl (by (with_reducible repeat (first|refine ze ?_ _|refine zf ?_|refine zg ?_ _));refine zK (cs:=#[.string (⟨#[]⟩ : ByteArray),.slice none 0 0,.slice none 0 0]) ?_ 2 _ rfl;(with_reducible repeat (first|refine ze ?_ _|refine zf ?_|refine zg ?_ _));refine zK (cs:=#[.string (⟨#[]⟩ : ByteArray),.slice none 0 0,.slice none 0 0]) ?_ 1 _ rfl;(with_reducible repeat (first|refine ze ?_ _|refine zf ?_|refine zg ?_ _));refine zK (cs:=#[.string (⟨#[]⟩ : ByteArray),.slice none 0 0,.slice none 0 0]) ?_ 0 _ rfl;(with_reducible repeat (first|refine ze ?_ _|refine zf ?_|refine zg ?_ _));exact BK113.out) Try.underlying25 rfl (by kernel_rfl)) rfl ?_;exact ⟨_,_,by first|rfl|(simp [yq,yr] <;> rfl)|(simp [*,yq,yr] <;> rfl),by first|exact Kd.S_nil _ _ _ _ _|exact Kd.N_nil _ _ _ _ _|exact Kd.V_nil _ _ _ _ _|exact Kd.Q_nil _ _ _ _ _|exact Kd.R_nil _ _ _ _ _,by first|exact Kd.S_nil _ _ _ _ _|exact Kd.N_nil _ _ _ _ _|exact Kd.V_nil _ _ _ _ _|exact Kd.Q_nil _ _ _ _ _|exact Kd.R_nil _ _ _ _ _,by repeat (with_reducible first|exact HB.out|apply za|apply zb|apply zc|refine zd ?_ GE113.out)⟩
 rw [if_neg c2] at H;have c2b0 : decide (65536<(a0.size : Int))=false:=decide_eq_false c2;have c2b1 : decide (65536<a0.size)=false:=decide_eq_false (by omega);clear c2;replace H:=zR.mp H;obtain ⟨t114,A50,H⟩:=H;replace H : (if t114=true then ((spec_l08New.f a0).bind fun bt115 => (some (bt115.1,bt115.2.1,bt115.2.2,0))) else (some ((⟨#[]⟩ : ByteArray),([] : List (S42)),([] : List (S46)),11)))=some (r1,r2,r3,r4):=H;have A5:=zh A50;clear A50
 by_cases c6 : t114=true
 ·
  subst c6
  have H1 : ((spec_l08New.f a0).bind fun bt115 => (some (bt115.1,bt115.2.1,bt115.2.2,0)))=some (r1,r2,r3,r4):=by rw [if_pos rfl] at H;exact H
  clear H;have H:=H1;clear H1;replace H:=zR.mp H;obtain ⟨⟨t115,t116,t119⟩,A70,H⟩:=H;replace H : (some (t115,t116,t119,0))=some (r1,r2,r3,r4):=H;have A7:=zh A70;clear A70;simp only [Option.some.injEq,Prod.mk.injEq] at H;obtain ⟨rfl,rfl,rfl,rfl⟩:=H
  go_enter Try.func4,Try.ntmps4
  go_wp2_with (first|((with_reducible refine zJ (N:=2) rfl ?_);refine zH ?hg (N:=2) ?hd (cs:=#[.string (⟨#[]⟩ : ByteArray),.slice none 0 0,.slice none 0 0]) (t:=25) ?hr ?_;(case hd => rfl);(case hg => rfl);(case hr => first|(go_simp;done)|(go_simp;rfl));intro gb113 hg w8 hbox hb;have BK113:=zh (hbox);have GW113:=zh ((by rw [hg];exact (zB (by repeat (with_reducible first|exact HB.out|apply za|apply zb|apply zc))) : w.heap.size≤gb113));have GE113:=zh ((by rw [hg];exact (zB (by repeat (with_reducible first|exact HB.out|apply za|apply zb|apply zc))) : w.heap.size≤gb113));replace HB:=zh (zC (by repeat (with_reducible first|exact HB.out|apply za|apply zb|apply zc)) hb);clear hb hbox hg)|((with_reducible refine zI (f:=9) rfl ?_);refine yg (some 9) rfl rfl Try.func9 (by kernel_rfl) rfl #[.string a0] rfl (by (try simp only [zt,zu,zv]);first|done|rfl|(simp only [zw,zx];rfl)|(simp only [yo,yp,zT,zU];rfl)) ?_;(with_reducible refine (spec_l01Name.calls k  a0 true _ A5.out).mono ?_);rintro e w' ⟨rfl,⟨nd,rfl⟩⟩;refine ⟨_,rfl,?_⟩;(try (rw [drewN_self w8];generalize hq_ : World.drewN w8 _=w8;replace BK113 : Aside0 (w8.heap[gb113]? = some (.cells #[.string (⟨#[]⟩ : ByteArray),.slice none 0 0,.slice none 0 0] 25 (0,0))):=⟨by rw [← hq_];exact (by (with_reducible repeat (first|refine ze ?_ _|refine zf ?_|refine zg ?_ _));exact BK113.out)⟩;replace HB : Aside0 (Below w.heap.size w w8):=⟨by rw [← hq_];exact (by repeat (with_reducible first|exact HB.out|apply za|apply zb|apply zc|refine zd ?_ GE113.out))⟩;clear hq_)))|((with_reducible refine zI (f:=10) rfl ?_);refine yg (some 13) rfl rfl Try.func10 (by kernel_rfl) rfl #[.string a0] rfl (by (try simp only [zt,zu,zv]);first|done|rfl|(simp only [zw,zx];rfl)|(simp only [yo,yp,zT,zU];rfl)) ?_;(with_reducible refine (spec_l08New.calls  a0 t115 t116 t119 _ A7.out).mono ?_);rintro e w9 ⟨v117,v120,rfl,ho0,ho1,hb⟩;refine ⟨_,rfl,?_⟩;have HO118:=zh (Kd.S_lower ho0 (zB (by repeat (with_reducible first|exact HB.out|apply za|apply zb|apply zc|refine zd ?_ GE113.out))));have HO121:=zh (Kd.S_lower ho1 (zB (by repeat (with_reducible first|exact HB.out|apply za|apply zb|apply zc|refine zd ?_ GE113.out))));replace BK113:=zh (zD (g:=gb113) (o:=.cells #[.string (⟨#[]⟩ : ByteArray),.slice none 0 0,.slice none 0 0] 25 (0,0)) (by (with_reducible repeat (first|refine ze ?_ _|refine zf ?_|refine zg ?_ _));exact BK113.out) hb);replace HB:=zh (zC (by repeat (with_reducible first|exact HB.out|apply za|apply zb|apply zc|refine zd ?_ GE113.out)) hb);(try clear hb);(try clear hb2);(try clear hk);(try clear hi);(try clear ho0);(try clear ho1);have hcz10_0 : w9.cell? ⟨gb113,0,none⟩=some (.string (⟨#[]⟩ : ByteArray)):=(zz BK113.out 0).trans rfl;have hcz10_1 : w9.cell? ⟨gb113,1,none⟩=some (.slice none 0 0):=(zz BK113.out 1).trans rfl;have hcz10_2 : w9.cell? ⟨gb113,2,none⟩=some (.slice none 0 0):=(zz BK113.out 2).trans rfl;have hfz10_0:=zA BK113.out 0;have hfz10_1:=zA BK113.out 1;have hfz10_2:=zA BK113.out 2;obtain ⟨Ao11,co11,eo11⟩:=Kd.S_slice HO118.out;subst eo11;obtain ⟨Ao12,co12,eo12⟩:=Kd.S_slice HO121.out;subst eo12))
  refine bodyPost_ret (results_ct rfl _ _ gb113 25 #[.string t115,.slice Ao11 t116.length co11,.slice Ao12 t119.length co12] (0,0) _ rfl (by (with_reducible repeat (first|refine ze ?_ _|refine zf ?_|refine zg ?_ _));refine zK (cs:=#[.string t115,.slice Ao11 t116.length co11,.slice none 0 0]) ?_ 2 _ rfl;(with_reducible repeat (first|refine ze ?_ _|refine zf ?_|refine zg ?_ _));refine zK (cs:=#[.string t115,.slice none 0 0,.slice none 0 0]) ?_ 1 _ rfl;(with_reducible repeat (first|refine ze ?_ _|refine zf ?_|refine zg ?_ _));refine zK (cs:=#[.string (⟨#[]⟩ : ByteArray),.slice none 0 0,.slice none 0 0]) ?_ 0 _ rfl;(with_reducible repeat (first|refine ze ?_ _|refine zf ?_|refine zg ?_ _));exact BK113.out) Try.underlying25 rfl (by kernel_rfl)) rfl ?_;exact ⟨_,_,by first|rfl|(simp [yq,yr] <;> rfl)|(simp [*,yq,yr] <;> rfl),by (with_reducible repeat (first|apply Kd.S_alloc|apply Kd.S_drewN|apply Kd.S_drew));exact Kd.S_mono (Kd.S_far (p:=⟨gb113,2,none⟩) (Kd.S_far (p:=⟨gb113,1,none⟩) (Kd.S_far (p:=⟨gb113,0,none⟩) (Kd.S_types HO118.out BK113.out (by decide)) (fun _ hk => hk.2) (.string t115)) (fun _ hk => hk.2) (.slice Ao11 t116.length co11)) (fun _ hk => hk.2) (.slice Ao12 t119.length co12)) (fun _ hk => trivial),by (with_reducible repeat (first|apply Kd.S_alloc|apply Kd.S_drewN|apply Kd.S_drew));exact Kd.S_mono (Kd.S_far (p:=⟨gb113,2,none⟩) (Kd.S_far (p:=⟨gb113,1,none⟩) (Kd.S_far (p:=⟨gb113,0,none⟩) (Kd.S_types HO121.out BK113.out (by decide)) (fun _ hk => hk.2) (.string t115)) (fun _ hk => hk.2) (.slice Ao11 t116.length co11)) (fun _ hk => hk.2) (.slice Ao12 t119.length co12)) (fun _ hk => trivial),by repeat (with_reducible first|exact HB.out|apply za|apply zb|apply zc|refine zd ?_ GE113.out)⟩
 replace c6:=zZ.mpr c6;subst c6;have H1 : (some ((⟨#[]⟩ : ByteArray),([] : List (S42)),([] : List (S46)),11))=some (r1,r2,r3,r4):=by rw [if_neg (show ¬ (false=true) by decide)] at H;exact H
 clear H;have H:=H1;clear H1;simp only [Option.some.injEq,Prod.mk.injEq] at H;obtain ⟨rfl,rfl,rfl,rfl⟩:=H
 go_enter Try.func4,Try.ntmps4
 go_wp2_with (first|((with_reducible refine zJ (N:=2) rfl ?_);refine zH ?hg (N:=2) ?hd (cs:=#[.string (⟨#[]⟩ : ByteArray),.slice none 0 0,.slice none 0 0]) (t:=25) ?hr ?_;(case hd => rfl);(case hg => rfl);(case hr => first|(go_simp;done)|(go_simp;rfl));intro gb113 hg w13 hbox hb;have BK113:=zh (hbox);have GW113:=zh ((by rw [hg];exact (zB (by repeat (with_reducible first|exact HB.out|apply za|apply zb|apply zc))) : w.heap.size≤gb113));have GE113:=zh ((by rw [hg];exact (zB (by repeat (with_reducible first|exact HB.out|apply za|apply zb|apply zc))) : w.heap.size≤gb113));replace HB:=zh (zC (by repeat (with_reducible first|exact HB.out|apply za|apply zb|apply zc)) hb);clear hb hbox hg)|((with_reducible refine zI (f:=9) rfl ?_);refine yg (some 9) rfl rfl Try.func9 (by kernel_rfl) rfl #[.string a0] rfl (by (try simp only [zt,zu,zv]);first|done|rfl|(simp only [zw,zx];rfl)|(simp only [yo,yp,zT,zU];rfl)) ?_;(with_reducible refine (spec_l01Name.calls k  a0 false _ A5.out).mono ?_);rintro e w' ⟨rfl,⟨nd,rfl⟩⟩;refine ⟨_,rfl,?_⟩;(try (rw [drewN_self w13];generalize hq_ : World.drewN w13 _=w13;replace BK113 : Aside0 (w13.heap[gb113]? = some (.cells #[.string (⟨#[]⟩ : ByteArray),.slice none 0 0,.slice none 0 0] 25 (0,0))):=⟨by rw [← hq_];exact (by (with_reducible repeat (first|refine ze ?_ _|refine zf ?_|refine zg ?_ _));exact BK113.out)⟩;replace HB : Aside0 (Below w.heap.size w w13):=⟨by rw [← hq_];exact (by repeat (with_reducible first|exact HB.out|apply za|apply zb|apply zc|refine zd ?_ GE113.out))⟩;clear hq_));have hcz14_0 : w13.cell? ⟨gb113,0,none⟩=some (.string (⟨#[]⟩ : ByteArray)):=(zz BK113.out 0).trans rfl;have hcz14_1 : w13.cell? ⟨gb113,1,none⟩=some (.slice none 0 0):=(zz BK113.out 1).trans rfl;have hcz14_2 : w13.cell? ⟨gb113,2,none⟩=some (.slice none 0 0):=(zz BK113.out 2).trans rfl;have hfz14_0:=zA BK113.out 0;have hfz14_1:=zA BK113.out 1;have hfz14_2:=zA BK113.out 2))
 refine bodyPost_ret (results_ct rfl _ _ gb113 25 #[.string (⟨#[]⟩ : ByteArray),.slice none 0 0,.slice none 0 0] (0,0) _ rfl (by (with_reducible repeat (first|refine ze ?_ _|refine zf ?_|refine zg ?_ _));refine zK (cs:=#[.string (⟨#[]⟩ : ByteArray),.slice none 0 0,.slice none 0 0]) ?_ 2 _ rfl;(with_reducible repeat (first|refine ze ?_ _|refine zf ?_|refine zg ?_ _));refine zK (cs:=#[.string (⟨#[]⟩ : ByteArray),.slice none 0 0,.slice none 0 0]) ?_ 1 _ rfl;(with_reducible repeat (first|refine ze ?_ _|refine zf ?_|refine zg ?_ _));refine zK (cs:=#[.string (⟨#[]⟩ : ByteArray),.slice none 0 0,.slice none 0 0]) ?_ 0 _ rfl;(with_reducible repeat (first|refine ze ?_ _|refine zf ?_|refine zg ?_ _));exact BK113.out) Try.underlying25 rfl (by kernel_rfl)) rfl ?_;exact ⟨_,_,by first|rfl|(simp [yq,yr] <;> rfl)|(simp [*,yq,yr] <;> rfl),by first|exact Kd.S_nil _ _ _ _ _|exact Kd.N_nil _ _ _ _ _|exact Kd.V_nil _ _ _ _ _|exact Kd.Q_nil _ _ _ _ _|exact Kd.R_nil _ _ _ _ _,by first|exact Kd.S_nil _ _ _ _ _|exact Kd.N_nil _ _ _ _ _|exact Kd.V_nil _ _ _ _ _|exact Kd.Q_nil _ _ _ _ _|exact Kd.R_nil _ _ _ _ _,by repeat (with_reducible first|exact HB.out|apply za|apply zb|apply zc|refine zd ?_ GE113.out)⟩

end Go.Proofs.Ytncpldpddbjdgaa.Q
end
section
namespace Go.Proofs.Ytncpldpddbjdgaa.Q
open Go.RowKit Go.Proofs.YtncpldpddbjdgaaW.PrintWords Go.Proofs.YtncpldpddbjdgaaW.PrintLast Go.Proofs.YtncpldpddbjdgaaW.PrintMore
attribute [local go_sem] max2_int min2_int max_two min_two max_three min_three max_four min_four max2_str min2_str str_geq str_gtr str_leq   -- for this text's walks alone
set_option linter.unusedVariables false
set_option linter.unusedSimpArgs false

def impl_isLong_1.f (a0 : ByteArray) : Option (Bool):=some (decide ((a0.size : Int) > 65536))
set_option maxHeartbeats 8000000 in
set_option maxRecDepth 100000 in
theorem impl_isLong_1.calls (a0 : ByteArray) (r : Bool) (w : World) (h : impl_isLong_1.f a0=some r) :
  Calls Try.prog 21 #[.string a0] w fun e w' => e = .returned (.bool r)∧Drawn0 w w':=by
 have H : (some (decide ((a0.size : Int) > 65536)))=some r:=h;clear h;obtain rfl:=zS H
 go_enter Try.func21,Try.ntmps21
 go_wp2
 go_ret
 exact ⟨by first|rfl|(simp;done)|(simp [*];done),by repeat (first|exact ym _|apply yn)⟩

end Go.Proofs.Ytncpldpddbjdgaa.Q
end
section
namespace Go.Proofs.Ytncpldpddbjdgaa.Q
open Go.RowKit Go.Proofs.YtncpldpddbjdgaaW.PrintWords Go.Proofs.YtncpldpddbjdgaaW.PrintLast Go.Proofs.YtncpldpddbjdgaaW.PrintMore
attribute [local go_sem] max2_int min2_int max_two min_two max_three min_three max_four min_four max2_str min2_str str_geq str_gtr str_leq   -- for this text's walks alone
set_option linter.unusedVariables false
set_option linter.unusedSimpArgs false

def slices_IndexFunc_string_string_at_isLong_1.l0 : Nat→List ByteArray→Int→Int→Option (Int)
 | 0,_,_,_ => none
 | k + 1,x0,x7,x8 => if x8<x7 then (if 0≤x8 then (if x8<(x0.length : Int) then ((impl_isLong_1.f (rdOf ByteArray.empty x0 x8)).bind fun t123 => (if t123=true then (some x8) else (slices_IndexFunc_string_string_at_isLong_1.l0 k x0 x7 (wrap64 (x8 + 1))))) else (none)) else (none)) else (some (-1))
def slices_IndexFunc_string_string_at_isLong_1.f (k : Nat) (l0 : List ByteArray)  : Option (Int):=slices_IndexFunc_string_string_at_isLong_1.l0 k l0 (l0.length : Int) 0
theorem slices_IndexFunc_string_string_at_isLong_1.mono_l : ∀ k,(∀ y0 y1 y2,LeO (slices_IndexFunc_string_string_at_isLong_1.l0 k y0 y1 y2) (slices_IndexFunc_string_string_at_isLong_1.l0 (k + 1) y0 y1 y2))
 | 0 => fun _ _ _ r h => by simp [slices_IndexFunc_string_string_at_isLong_1.l0] at h
 | k + 1 => by
  have ih0:=slices_IndexFunc_string_string_at_isLong_1.mono_l k;intro y0 y1 y2;unfold slices_IndexFunc_string_string_at_isLong_1.l0
  repeat' first|(with_reducible exact ih0 _ _ _)|(with_reducible exact zO _)|(with_reducible exact zL _)|(with_reducible refine zN ?_ ?_)|(with_reducible refine zM ?_ (fun _ => ?_))|refine zN ?_ ?_|refine zM ?_ (fun _ => ?_)
theorem slices_IndexFunc_string_string_at_isLong_1.mono : ∀ a0 k,LeO (slices_IndexFunc_string_string_at_isLong_1.f k a0) (slices_IndexFunc_string_string_at_isLong_1.f (k + 1) a0):=by
 intro a0 k;have ih0:=slices_IndexFunc_string_string_at_isLong_1.mono_l k;unfold slices_IndexFunc_string_string_at_isLong_1.f
 repeat' first|(with_reducible exact ih0 _ _ _)|(with_reducible exact zO _)|(with_reducible exact zL _)|(with_reducible refine zN ?_ ?_)|(with_reducible refine zM ?_ (fun _ => ?_))|refine zN ?_ ?_|refine zM ?_ (fun _ => ?_)
set_option maxHeartbeats 8000000 in
set_option maxRecDepth 100000 in
theorem slices_IndexFunc_string_string_at_isLong_1.calls (k : Nat) (A0 : Option Addr) (c0 : Nat) (l0 : List ByteArray)  (r : Int) (w : World) (hr0 : Kd.C Kd.string w A0 l0.length l0) (hc0 : l0.length≤c0) (h : slices_IndexFunc_string_string_at_isLong_1.f k l0=some r) :
  Calls Try.prog 31 #[.slice A0 l0.length c0,.func (.func 21) #[] #[]] w fun e w' => e = .returned (.int .i64 r)∧Drawn0 w w':=by
 have HR0:=zh hr0;have HC0:=zh hc0;clear hr0 hc0;have H : (slices_IndexFunc_string_string_at_isLong_1.l0 k l0 (l0.length : Int) 0)=some r:=h;clear h;have H':=zh H;clear H
 go_enter Try.func31,Try.ntmps31
 go_wp2
 go_loopg [8] k (fun kq v8 w' => ∃ (x8_1 : Int),v8 = .int .i64 x8_1∧Aside0 (slices_IndexFunc_string_string_at_isLong_1.l0 kq l0 (l0.length : Int) x8_1=some r)∧Aside0 (kq≤k)∧Drawn0 w w')
 case atStart => exact ⟨(0),(by first|rfl|(simp;done)|(simp [*];done)),H',⟨yc _⟩,by repeat (first|exact ym _|apply yn)⟩
 case round =>
  clear H'
  try clear p2
  obtain ⟨x8_1,rfl,HA,HK1,⟨m1,rfl⟩⟩:=hrel
  cases gk with
  | zero => exact absurd HA.out (by simp [slices_IndexFunc_string_string_at_isLong_1.l0])
  | succ k1 =>
   have H:=HA.out;clear HA;simp only [slices_IndexFunc_string_string_at_isLong_1.l0] at H
   by_cases c3 : x8_1<(l0.length : Int)
   ·
    rw [if_pos c3] at H
    have c3b0 : decide (x8_1<(l0.length : Int))=true:=decide_eq_true c3;clear c3
    by_cases c4 : 0≤x8_1
    ·
     rw [if_pos c4] at H
     have c4b0 : decide (0≤x8_1)=true:=decide_eq_true c4;clear c4
     by_cases c5 : x8_1<(l0.length : Int)
     ·
      rw [if_pos c5] at H
      have c5b0 : decide (x8_1<(l0.length : Int))=true:=decide_eq_true c5;clear c5;replace H:=zR.mp H;obtain ⟨t123,A60,H⟩:=H;replace H : (if t123=true then (some x8_1) else (slices_IndexFunc_string_string_at_isLong_1.l0 k1 l0 (l0.length : Int) (wrap64 (x8_1 + 1))))=some r:=H;have A6:=zh A60;clear A60
      by_cases c7 : t123=true
      ·
       subst c7
       have H1 : (some x8_1)=some r:=by rw [if_pos rfl] at H;exact H
       clear H;have H:=H1;clear H1;obtain rfl:=zS H;have p122 : 0≤(x8_1 : Int):=zy (by first|(with_reducible assumption)|assumption);have q122 : x8_1<(l0.length : Int):=zy (by first|(with_reducible assumption)|assumption);obtain ⟨ad122,e122,hx122_0⟩:=Kd.at_string HR0.out x8_1 p122 q122
       cases e122
       replace p122:=eq_true p122;replace q122:=eq_true q122
       go_wp2_with (first|(go_at_call 21;(with_reducible refine (impl_isLong_1.calls  (rdOf ByteArray.empty l0 x8_1) true _ A6.out).mono ?_);rintro e w' ⟨rfl,⟨nd,rfl⟩⟩))
       go_ret
       exact ⟨by first|rfl|(simp;done)|(simp [*];done),by repeat (first|exact ym _|apply yn)⟩
      replace c7:=zZ.mpr c7;subst c7;have H1 : (slices_IndexFunc_string_string_at_isLong_1.l0 k1 l0 (l0.length : Int) (wrap64 (x8_1 + 1)))=some r:=by rw [if_neg (show ¬ (false=true) by decide)] at H;exact H
      clear H;have H:=H1;clear H1;have H':=zh H;clear H;have p122 : 0≤(x8_1 : Int):=zy (by first|(with_reducible assumption)|assumption);have q122 : x8_1<(l0.length : Int):=zy (by first|(with_reducible assumption)|assumption);obtain ⟨ad122,e122,hx122_0⟩:=Kd.at_string HR0.out x8_1 p122 q122
      cases e122
      replace p122:=eq_true p122;replace q122:=eq_true q122
      go_wp2_with (first|(go_at_call 21;(with_reducible refine (impl_isLong_1.calls  (rdOf ByteArray.empty l0 x8_1) false _ A6.out).mono ?_);rintro e w' ⟨rfl,⟨nd,rfl⟩⟩))
      go_roundg k1
      case measure => have:=HK1.out;omega
      case rel => exact ⟨(wrap64 (x8_1 + 1)),(by first|rfl|(simp;done)|(simp [*];done)),H',⟨by have:=HK1.out;omega⟩,by repeat (first|exact ym _|apply yn)⟩
     rw [if_neg c5] at H;exact absurd H (by simp)
    rw [if_neg c4] at H;exact absurd H (by simp)
   rw [if_neg c3] at H;have c3b0 : decide (x8_1<(l0.length : Int))=false:=decide_eq_false c3;clear c3;obtain rfl:=zS H
   go_wp2
   go_ret
   exact ⟨by first|rfl|(simp;done)|(simp [*];done),by repeat (first|exact ym _|apply yn)⟩

end Go.Proofs.Ytncpldpddbjdgaa.Q
end
section
namespace Go.Proofs.Ytncpldpddbjdgaa.Q
open Go.RowKit Go.Proofs.YtncpldpddbjdgaaW.PrintWords Go.Proofs.YtncpldpddbjdgaaW.PrintLast Go.Proofs.YtncpldpddbjdgaaW.PrintMore
attribute [local go_sem] max2_int min2_int max_two min_two max_three min_three max_four min_four max2_str min2_str str_geq str_gtr str_leq   -- for this text's walks alone
set_option linter.unusedVariables false
set_option linter.unusedSimpArgs false

def slices_ContainsFunc_string_string_at_isLong_1.f (k : Nat) (l0 : List ByteArray)  : Option (Bool):=(slices_IndexFunc_string_string_at_isLong_1.f k l0).bind fun t124 => (some (decide (t124 ≥ 0)))
theorem slices_ContainsFunc_string_string_at_isLong_1.mono : ∀ a0 k,LeO (slices_ContainsFunc_string_string_at_isLong_1.f k a0) (slices_ContainsFunc_string_string_at_isLong_1.f (k + 1) a0):=by
 intro a0 k;unfold slices_ContainsFunc_string_string_at_isLong_1.f
 repeat' first|(with_reducible exact slices_IndexFunc_string_string_at_isLong_1.mono _ _)|(with_reducible exact zO _)|(with_reducible exact zL _)|(with_reducible refine zN ?_ ?_)|(with_reducible refine zM ?_ (fun _ => ?_))|refine zN ?_ ?_|refine zM ?_ (fun _ => ?_)
set_option maxHeartbeats 8000000 in
set_option maxRecDepth 100000 in
theorem slices_ContainsFunc_string_string_at_isLong_1.calls (k : Nat) (A0 : Option Addr) (c0 : Nat) (l0 : List ByteArray)  (r : Bool) (w : World) (hr0 : Kd.C Kd.string w A0 l0.length l0) (hc0 : l0.length≤c0) (h : slices_ContainsFunc_string_string_at_isLong_1.f k l0=some r) :
  Calls Try.prog 20 #[.slice A0 l0.length c0,.func (.func 21) #[] #[]] w fun e w' => e = .returned (.bool r)∧Drawn0 w w':=by
 have HR0:=zh hr0;have HC0:=zh hc0;clear hr0 hc0;have H : ((slices_IndexFunc_string_string_at_isLong_1.f k l0).bind fun t124 => (some (decide (t124 ≥ 0))))=some r:=h;clear h;replace H:=zR.mp H;obtain ⟨t124,A30,H⟩:=H;replace H : (some (decide (t124 ≥ 0)))=some r:=H;have A3:=zh A30;clear A30;obtain rfl:=zS H
 go_enter Try.func20,Try.ntmps20
 go_wp2_with (first|((with_reducible refine zI (f:=31) rfl ?_);refine yg (some 7) rfl rfl Try.func31 (by kernel_rfl) rfl #[.slice A0 l0.length c0,.func (.func 21) #[] #[]] rfl (by (try simp only [zt,zu,zv]);first|done|rfl|(simp only [zw,zx];rfl)|(simp only [yo,yp,zT,zU];rfl)) ?_;(with_reducible refine (slices_IndexFunc_string_string_at_isLong_1.calls k  _ _ l0  t124 _ ?side1 ?side2 A3.out).mono ?_);(case side1 => repeat (first|exact HR0.out|(with_reducible refine Kd.C_alloc ?_ _)|(with_reducible refine Kd.C_drewN ?_ _)|(with_reducible refine Kd.C_drew ?_)));(case side2 => exact HC0.out);rintro e w' ⟨rfl,⟨nd,rfl⟩⟩;refine ⟨_,rfl,?_⟩))
 go_ret
 exact ⟨by first|rfl|(simp;done)|(simp [*];done),by repeat (first|exact ym _|apply yn)⟩

end Go.Proofs.Ytncpldpddbjdgaa.Q
end
section
namespace Go.Proofs.Ytncpldpddbjdgaa.Q
open Go.RowKit Go.Proofs.YtncpldpddbjdgaaW.PrintWords Go.Proofs.YtncpldpddbjdgaaW.PrintLast Go.Proofs.YtncpldpddbjdgaaW.PrintMore
attribute [local go_sem] max2_int min2_int max_two min_two max_three min_three max_four min_four max2_str min2_str str_geq str_gtr str_leq   -- for this text's walks alone
set_option linter.unusedVariables false
set_option linter.unusedSimpArgs false

def impl_isLong.f (k : Nat) (l0 : List ByteArray) : Option (Bool):=(slices_ContainsFunc_string_string_at_isLong_1.f k l0).bind fun t125 => (some t125)
theorem impl_isLong.mono : ∀ a0 k,LeO (impl_isLong.f k a0) (impl_isLong.f (k + 1) a0):=by
 intro a0 k;unfold impl_isLong.f
 repeat' first|(with_reducible exact slices_ContainsFunc_string_string_at_isLong_1.mono _ _)|(with_reducible exact zO _)|(with_reducible exact zL _)|(with_reducible refine zN ?_ ?_)|(with_reducible refine zM ?_ (fun _ => ?_))|refine zN ?_ ?_|refine zM ?_ (fun _ => ?_)
set_option maxHeartbeats 8000000 in
set_option maxRecDepth 100000 in
theorem impl_isLong.calls (k : Nat) (A0 : Option Addr) (c0 : Nat) (l0 : List ByteArray) (r : Bool) (w : World) (hr0 : Kd.C Kd.string w A0 l0.length l0) (hc0 : l0.length≤c0) (h : impl_isLong.f k l0=some r) :
  Calls Try.prog 11 #[.slice A0 l0.length c0] w fun e w' => e = .returned (.bool r)∧Below w.heap.size w w':=by
 have HR0:=zh hr0;have HC0:=zh hc0;clear hr0 hc0;have HB:=zh (Below.refl w.heap.size w);have H : ((slices_ContainsFunc_string_string_at_isLong_1.f k l0).bind fun t125 => (some t125))=some r:=h;clear h;replace H:=zR.mp H;obtain ⟨t125,A20,H⟩:=H;replace H : (some t125)=some r:=H;have A2:=zh A20;clear A20;obtain rfl:=zS H
 go_enter Try.func11,Try.ntmps11
 go_wp2_with (first|((with_reducible refine zI (f:=20) rfl ?_);refine yg (some 4) rfl rfl Try.func20 (by kernel_rfl) rfl #[.slice A0 l0.length c0,.func (.func 21) #[] #[]] rfl (by (try simp only [zt,zu,zv]);first|done|rfl|(simp only [zw,zx];rfl)|(simp only [yo,yp,zT,zU];rfl)) ?_;(with_reducible refine (slices_ContainsFunc_string_string_at_isLong_1.calls k  _ _ l0  t125 _ ?side1 ?side2 A2.out).mono ?_);(case side1 => repeat (first|exact HR0.out|(with_reducible refine Kd.C_alloc ?_ _)|(with_reducible refine Kd.C_drewN ?_ _)|(with_reducible refine Kd.C_drew ?_)));(case side2 => exact HC0.out);rintro e w' ⟨rfl,⟨nd,rfl⟩⟩;refine ⟨_,rfl,?_⟩))
 go_ret
 exact ⟨by first|rfl|(simp [yq,yr] <;> rfl)|(simp [*,yq,yr] <;> rfl),by repeat (with_reducible first|exact HB.out|apply za|apply zb|apply zc)⟩

end Go.Proofs.Ytncpldpddbjdgaa.Q
end
section
namespace Go.Proofs.Ytncpldpddbjdgaa.Q
open Go.RowKit Go.Proofs.YtncpldpddbjdgaaW.PrintWords Go.Proofs.YtncpldpddbjdgaaW.PrintLast Go.Proofs.YtncpldpddbjdgaaW.PrintMore
attribute [local go_sem] max2_int min2_int max_two min_two max_three min_three max_four min_four max2_str min2_str str_geq str_gtr str_leq   -- for this text's walks alone
set_option linter.unusedVariables false
set_option linter.unusedSimpArgs false

def impl_isLetter.f (a0 : Int) : Option (Bool):=if a0 ≥ 97 then (if a0≤122 then (some true) else (if a0 ≥ 65 then (if a0≤90 then (some true) else (some (a0 == 95))) else (some (a0 == 95)))) else (if a0 ≥ 65 then (if a0≤90 then (some true) else (some (a0 == 95))) else (some (a0 == 95)))
set_option maxHeartbeats 8000000 in
set_option maxRecDepth 100000 in
theorem impl_isLetter.calls (a0 : Int) (r : Bool) (w : World) (h : impl_isLetter.f a0=some r) :
  Calls Try.prog 32 #[.int .u8 a0] w fun e w' => e = .returned (.bool r)∧Drawn0 w w':=by
 have H : (if a0 ≥ 97 then (if a0≤122 then (some true) else (if a0 ≥ 65 then (if a0≤90 then (some true) else (some (a0 == 95))) else (some (a0 == 95)))) else (if a0 ≥ 65 then (if a0≤90 then (some true) else (some (a0 == 95))) else (some (a0 == 95))))=some r:=h;clear h
 by_cases c2 : a0 ≥ 97
 ·
  rw [if_pos c2] at H
  have c2b0 : decide (97≤a0)=true:=decide_eq_true c2;clear c2
  by_cases c3 : a0≤122
  ·
   rw [if_pos c3] at H
   have c3b0 : decide (a0≤122)=true:=decide_eq_true c3;clear c3;obtain rfl:=zS H
   go_enter Try.func32,Try.ntmps32
   go_wp2
   go_ret
   exact ⟨by first|rfl|(simp;done)|(simp [*];done),by repeat (first|exact ym _|apply yn)⟩
  rw [if_neg c3] at H;have c3b0 : decide (a0≤122)=false:=decide_eq_false c3;clear c3
  by_cases c4 : a0 ≥ 65
  ·
   rw [if_pos c4] at H
   have c4b0 : decide (65≤a0)=true:=decide_eq_true c4;clear c4
   by_cases c5 : a0≤90
   ·
    rw [if_pos c5] at H
    have c5b0 : decide (a0≤90)=true:=decide_eq_true c5;clear c5;obtain rfl:=zS H
    go_enter Try.func32,Try.ntmps32
    go_wp2
    go_ret
    exact ⟨by first|rfl|(simp;done)|(simp [*];done),by repeat (first|exact ym _|apply yn)⟩
   rw [if_neg c5] at H;have c5b0 : decide (a0≤90)=false:=decide_eq_false c5;clear c5;obtain rfl:=zS H
   go_enter Try.func32,Try.ntmps32
   go_wp2
   go_ret
   exact ⟨by first|rfl|(simp;done)|(simp [*];done),by repeat (first|exact ym _|apply yn)⟩
  rw [if_neg c4] at H;have c4b0 : decide (65≤a0)=false:=decide_eq_false c4;clear c4;obtain rfl:=zS H
  go_enter Try.func32,Try.ntmps32
  go_wp2
  go_ret
  exact ⟨by first|rfl|(simp;done)|(simp [*];done),by repeat (first|exact ym _|apply yn)⟩
 rw [if_neg c2] at H;have c2b0 : decide (97≤a0)=false:=decide_eq_false c2;clear c2
 by_cases c6 : a0 ≥ 65
 ·
  rw [if_pos c6] at H
  have c6b0 : decide (65≤a0)=true:=decide_eq_true c6;clear c6
  by_cases c7 : a0≤90
  ·
   rw [if_pos c7] at H
   have c7b0 : decide (a0≤90)=true:=decide_eq_true c7;clear c7;obtain rfl:=zS H
   go_enter Try.func32,Try.ntmps32
   go_wp2
   go_ret
   exact ⟨by first|rfl|(simp;done)|(simp [*];done),by repeat (first|exact ym _|apply yn)⟩
  rw [if_neg c7] at H;have c7b0 : decide (a0≤90)=false:=decide_eq_false c7;clear c7;obtain rfl:=zS H
  go_enter Try.func32,Try.ntmps32
  go_wp2
  go_ret
  exact ⟨by first|rfl|(simp;done)|(simp [*];done),by repeat (first|exact ym _|apply yn)⟩
 rw [if_neg c6] at H;have c6b0 : decide (65≤a0)=false:=decide_eq_false c6;clear c6;obtain rfl:=zS H
 go_enter Try.func32,Try.ntmps32
 go_wp2
 go_ret
 exact ⟨by first|rfl|(simp;done)|(simp [*];done),by repeat (first|exact ym _|apply yn)⟩

end Go.Proofs.Ytncpldpddbjdgaa.Q
end
section
namespace Go.Proofs.Ytncpldpddbjdgaa.Q
open Go.RowKit Go.Proofs.YtncpldpddbjdgaaW.PrintWords Go.Proofs.YtncpldpddbjdgaaW.PrintLast Go.Proofs.YtncpldpddbjdgaaW.PrintMore
attribute [local go_sem] max2_int min2_int max_two min_two max_three min_three max_four min_four max2_str min2_str str_geq str_gtr str_leq   -- for this text's walks alone
set_option linter.unusedVariables false
set_option linter.unusedSimpArgs false

def impl_isDigit.f (a0 : Int) : Option (Bool):=if a0 ≥ 48 then (some (decide (a0≤57))) else (some false)
set_option maxHeartbeats 8000000 in
set_option maxRecDepth 100000 in
theorem impl_isDigit.calls (a0 : Int) (r : Bool) (w : World) (h : impl_isDigit.f a0=some r) :
  Calls Try.prog 33 #[.int .u8 a0] w fun e w' => e = .returned (.bool r)∧Drawn0 w w':=by
 have H : (if a0 ≥ 48 then (some (decide (a0≤57))) else (some false))=some r:=h;clear h
 by_cases c2 : a0 ≥ 48
 ·
  rw [if_pos c2] at H
  have c2b0 : decide (48≤a0)=true:=decide_eq_true c2;clear c2;obtain rfl:=zS H
  go_enter Try.func33,Try.ntmps33
  go_wp2
  go_ret
  exact ⟨by first|rfl|(simp;done)|(simp [*];done),by repeat (first|exact ym _|apply yn)⟩
 rw [if_neg c2] at H;have c2b0 : decide (48≤a0)=false:=decide_eq_false c2;clear c2;obtain rfl:=zS H
 go_enter Try.func33,Try.ntmps33
 go_wp2
 go_ret
 exact ⟨by first|rfl|(simp;done)|(simp [*];done),by repeat (first|exact ym _|apply yn)⟩

end Go.Proofs.Ytncpldpddbjdgaa.Q
end
section
namespace Go.Proofs.Ytncpldpddbjdgaa.Q
open Go.RowKit Go.Proofs.YtncpldpddbjdgaaW.PrintWords Go.Proofs.YtncpldpddbjdgaaW.PrintLast Go.Proofs.YtncpldpddbjdgaaW.PrintMore
attribute [local go_sem] max2_int min2_int max_two min_two max_three min_three max_four min_four max2_str min2_str str_geq str_gtr str_leq   -- for this text's walks alone
set_option linter.unusedVariables false
set_option linter.unusedSimpArgs false

def impl_inRange.f (a0 : Int) (a1 : Int) (a2 : Int) : Option (Bool):=if a1≤a0 then (some (decide (a0≤a2))) else (some false)
set_option maxHeartbeats 8000000 in
set_option maxRecDepth 100000 in
theorem impl_inRange.calls (a0 : Int) (a1 : Int) (a2 : Int) (r : Bool) (w : World) (h : impl_inRange.f a0 a1 a2=some r) :
  Calls Try.prog 34 #[.int .i64 a0,.int .i64 a1,.int .i64 a2] w fun e w' => e = .returned (.bool r)∧Drawn0 w w':=by
 have H : (if a1≤a0 then (some (decide (a0≤a2))) else (some false))=some r:=h;clear h
 by_cases c4 : a1≤a0
 ·
  rw [if_pos c4] at H
  have c4b0 : decide (a1≤a0)=true:=decide_eq_true c4;clear c4;obtain rfl:=zS H
  go_enter Try.func34,Try.ntmps34
  go_wp2
  go_ret
  exact ⟨by first|rfl|(simp;done)|(simp [*];done),by repeat (first|exact ym _|apply yn)⟩
 rw [if_neg c4] at H;have c4b0 : decide (a1≤a0)=false:=decide_eq_false c4;clear c4;obtain rfl:=zS H
 go_enter Try.func34,Try.ntmps34
 go_wp2
 go_ret
 exact ⟨by first|rfl|(simp;done)|(simp [*];done),by repeat (first|exact ym _|apply yn)⟩

end Go.Proofs.Ytncpldpddbjdgaa.Q
end
section
namespace Go.Proofs.Ytncpldpddbjdgaa.Q
open Go.RowKit Go.Proofs.YtncpldpddbjdgaaW.PrintWords Go.Proofs.YtncpldpddbjdgaaW.PrintLast Go.Proofs.YtncpldpddbjdgaaW.PrintMore
attribute [local go_sem] max2_int min2_int max_two min_two max_three min_three max_four min_four max2_str min2_str str_geq str_gtr str_leq   -- for this text's walks alone
set_option linter.unusedVariables false
set_option linter.unusedSimpArgs false

def impl_NameOK.l0 : Nat→ByteArray→Int→Int→Option (Bool)
 | 0,_,_,_ => none
 | k + 1,x0,x5,x6 => if x6<x5 then (if 0≤x6 then (if x6<(x0.size : Int) then ((impl_isLetter.f (bt x0 x6)).bind fun t127 => (if t127=true then (impl_NameOK.l0 k x0 x5 (wrap64 (x6 + 1))) else ((impl_isDigit.f (bt x0 x6)).bind fun t128 => (if t128=true then (if x6=0 then (some false) else (impl_NameOK.l0 k x0 x5 (wrap64 (x6 + 1)))) else (some false))))) else (none)) else (none)) else ((impl_inRange.f (x0.size : Int) 1 40).bind fun t126 => (some t126))
def impl_NameOK.f (k : Nat) (a0 : ByteArray) : Option (Bool):=impl_NameOK.l0 k a0 (a0.size : Int) 0
theorem impl_NameOK.mono_l : ∀ k,(∀ y0 y1 y2,LeO (impl_NameOK.l0 k y0 y1 y2) (impl_NameOK.l0 (k + 1) y0 y1 y2))
 | 0 => fun _ _ _ r h => by simp [impl_NameOK.l0] at h
 | k + 1 => by
  have ih0:=impl_NameOK.mono_l k;intro y0 y1 y2;unfold impl_NameOK.l0
  repeat' first|(with_reducible exact ih0 _ _ _)|(with_reducible exact zO _)|(with_reducible exact zL _)|(with_reducible refine zN ?_ ?_)|(with_reducible refine zM ?_ (fun _ => ?_))|refine zN ?_ ?_|refine zM ?_ (fun _ => ?_)
theorem impl_NameOK.mono : ∀ a0 k,LeO (impl_NameOK.f k a0) (impl_NameOK.f (k + 1) a0):=by
 intro a0 k;have ih0:=impl_NameOK.mono_l k;unfold impl_NameOK.f
 repeat' first|(with_reducible exact ih0 _ _ _)|(with_reducible exact zO _)|(with_reducible exact zL _)|(with_reducible refine zN ?_ ?_)|(with_reducible refine zM ?_ (fun _ => ?_))|refine zN ?_ ?_|refine zM ?_ (fun _ => ?_)
set_option maxHeartbeats 8000000 in
set_option maxRecDepth 100000 in
theorem impl_NameOK.calls (k : Nat) (a0 : ByteArray) (r : Bool) (w : World) (h : impl_NameOK.f k a0=some r) :
  Calls Try.prog 22 #[.string a0] w fun e w' => e = .returned (.bool r)∧Drawn0 w w':=by
 have H : (impl_NameOK.l0 k a0 (a0.size : Int) 0)=some r:=h;clear h;have H':=zh H;clear H
 go_enter Try.func22,Try.ntmps22
 go_wp2
 go_loopg [6] k (fun kq v6 w' => ∃ (x6_1 : Int),v6 = .int .i64 x6_1∧Aside0 (impl_NameOK.l0 kq a0 (a0.size : Int) x6_1=some r)∧Aside0 (kq≤k)∧Drawn0 w w')
 case atStart => exact ⟨(0),(by first|rfl|(simp;done)|(simp [*];done)),H',⟨yc _⟩,by repeat (first|exact ym _|apply yn)⟩
 case round =>
  clear H';obtain ⟨x6_1,rfl,HA,HK1,⟨m1,rfl⟩⟩:=hrel
  cases gk with
  | zero => exact absurd HA.out (by simp [impl_NameOK.l0])
  | succ k1 =>
   have H:=HA.out;clear HA;simp only [impl_NameOK.l0] at H
   by_cases c2 : x6_1<(a0.size : Int)
   ·
    rw [if_pos c2] at H
    have c2b0 : decide (x6_1<(a0.size : Int))=true:=decide_eq_true c2;clear c2
    by_cases c3 : 0≤x6_1
    ·
     rw [if_pos c3] at H
     have c3b0 : decide (0≤x6_1)=true:=decide_eq_true c3;clear c3
     by_cases c4 : x6_1<(a0.size : Int)
     ·
      rw [if_pos c4] at H
      have c4b0 : decide (x6_1<(a0.size : Int))=true:=decide_eq_true c4;clear c4;replace H:=zR.mp H;obtain ⟨t127,A60,H⟩:=H;replace H : (if t127=true then (impl_NameOK.l0 k1 a0 (a0.size : Int) (wrap64 (x6_1 + 1))) else ((impl_isDigit.f (bt a0 x6_1)).bind fun t128 => (if t128=true then (if x6_1=0 then (some false) else (impl_NameOK.l0 k1 a0 (a0.size : Int) (wrap64 (x6_1 + 1)))) else (some false))))=some r:=H;have A6:=zh A60;clear A60
      by_cases c7 : t127=true
      ·
       subst c7
       have H1 : (impl_NameOK.l0 k1 a0 (a0.size : Int) (wrap64 (x6_1 + 1)))=some r:=by rw [if_pos rfl] at H;exact H
       clear H;have H:=H1;clear H1;have H':=zh H;clear H;have p5 : 0≤(x6_1 : Int):=zy (by first|(with_reducible assumption)|assumption);have q5 : x6_1<(a0.size : Int):=zy (by first|(with_reducible assumption)|assumption);have hx5:=bt_at a0 x6_1;replace p5:=eq_true p5;replace q5:=eq_true q5
       go_wp2_with (first|((with_reducible refine zI (f:=32) rfl ?_);refine yg (some 12) rfl rfl Try.func32 (by kernel_rfl) rfl #[.int .u8 (bt a0 x6_1)] rfl (by (try simp only [zt,zu,zv]);first|done|rfl|(simp only [zw,zx];rfl)|(simp only [yo,yp,zT,zU];rfl)) ?_;(with_reducible refine (impl_isLetter.calls  (bt a0 x6_1) true _ A6.out).mono ?_);rintro e w' ⟨rfl,⟨nd,rfl⟩⟩;refine ⟨_,rfl,?_⟩))
       go_roundg k1
       case measure => have:=HK1.out;omega
       case rel => exact ⟨(wrap64 (x6_1 + 1)),(by first|rfl|(simp;done)|(simp [*];done)),H',⟨by have:=HK1.out;omega⟩,by repeat (first|exact ym _|apply yn)⟩
      replace c7:=zZ.mpr c7;subst c7;have H1 : ((impl_isDigit.f (bt a0 x6_1)).bind fun t128 => (if t128=true then (if x6_1=0 then (some false) else (impl_NameOK.l0 k1 a0 (a0.size : Int) (wrap64 (x6_1 + 1)))) else (some false)))=some r:=by rw [if_neg (show ¬ (false=true) by decide)] at H;exact H
      clear H;have H:=H1;clear H1;replace H:=zR.mp H;obtain ⟨t128,A90,H⟩:=H;replace H : (if t128=true then (if x6_1=0 then (some false) else (impl_NameOK.l0 k1 a0 (a0.size : Int) (wrap64 (x6_1 + 1)))) else (some false))=some r:=H;have A9:=zh A90;clear A90
      by_cases c10 : t128=true
      ·
       subst c10
       have H1 : (if x6_1=0 then (some false) else (impl_NameOK.l0 k1 a0 (a0.size : Int) (wrap64 (x6_1 + 1))))=some r:=by rw [if_pos rfl] at H;exact H
       clear H;have H:=H1;clear H1
       by_cases c11 : x6_1=0
       ·
        rw [if_pos c11] at H
        have c11b0 : (x6_1 == 0)=true:=zY.mpr c11;have c11b1 : (x6_1 != 0)=false:=zV.mpr c11;clear c11;obtain rfl:=zS H;have p5 : 0≤(x6_1 : Int):=zy (by first|(with_reducible assumption)|assumption);have q5 : x6_1<(a0.size : Int):=zy (by first|(with_reducible assumption)|assumption);have hx5:=bt_at a0 x6_1;replace p5:=eq_true p5;replace q5:=eq_true q5
        go_wp2_with (first|((with_reducible refine zI (f:=32) rfl ?_);refine yg (some 12) rfl rfl Try.func32 (by kernel_rfl) rfl #[.int .u8 (bt a0 x6_1)] rfl (by (try simp only [zt,zu,zv]);first|done|rfl|(simp only [zw,zx];rfl)|(simp only [yo,yp,zT,zU];rfl)) ?_;(with_reducible refine (impl_isLetter.calls  (bt a0 x6_1) false _ A6.out).mono ?_);rintro e w' ⟨rfl,⟨nd,rfl⟩⟩;refine ⟨_,rfl,?_⟩;have p8 : 0≤(x6_1 : Int):=zy (by first|(with_reducible assumption)|assumption);have q8 : x6_1<(a0.size : Int):=zy (by first|(with_reducible assumption)|assumption);have hx8:=bt_at a0 x6_1;replace p8:=eq_true p8;replace q8:=eq_true q8)|(go_at_call 33;(with_reducible refine (impl_isDigit.calls  (bt a0 x6_1) true _ A9.out).mono ?_);rintro e w' ⟨rfl,⟨nd,rfl⟩⟩))
        go_ret
        exact ⟨by first|rfl|(simp;done)|(simp [*];done),by repeat (first|exact ym _|apply yn)⟩
       rw [if_neg c11] at H;have c11b0 : (x6_1 == 0)=false:=zW.mpr c11;have c11b1 : (x6_1 != 0)=true:=zX.mpr c11;have H':=zh H;clear H;have p5 : 0≤(x6_1 : Int):=zy (by first|(with_reducible assumption)|assumption);have q5 : x6_1<(a0.size : Int):=zy (by first|(with_reducible assumption)|assumption);have hx5:=bt_at a0 x6_1;replace p5:=eq_true p5;replace q5:=eq_true q5
       go_wp2_with (first|((with_reducible refine zI (f:=32) rfl ?_);refine yg (some 12) rfl rfl Try.func32 (by kernel_rfl) rfl #[.int .u8 (bt a0 x6_1)] rfl (by (try simp only [zt,zu,zv]);first|done|rfl|(simp only [zw,zx];rfl)|(simp only [yo,yp,zT,zU];rfl)) ?_;(with_reducible refine (impl_isLetter.calls  (bt a0 x6_1) false _ A6.out).mono ?_);rintro e w' ⟨rfl,⟨nd,rfl⟩⟩;refine ⟨_,rfl,?_⟩;have p8 : 0≤(x6_1 : Int):=zy (by first|(with_reducible assumption)|assumption);have q8 : x6_1<(a0.size : Int):=zy (by first|(with_reducible assumption)|assumption);have hx8:=bt_at a0 x6_1;replace p8:=eq_true p8;replace q8:=eq_true q8)|(go_at_call 33;(with_reducible refine (impl_isDigit.calls  (bt a0 x6_1) true _ A9.out).mono ?_);rintro e w' ⟨rfl,⟨nd,rfl⟩⟩))
       go_roundg k1
       case measure => have:=HK1.out;omega
       case rel => exact ⟨(wrap64 (x6_1 + 1)),(by first|rfl|(simp;done)|(simp [*];done)),H',⟨by have:=HK1.out;omega⟩,by repeat (first|exact ym _|apply yn)⟩
      replace c10:=zZ.mpr c10;subst c10;have H1 : (some false)=some r:=by rw [if_neg (show ¬ (false=true) by decide)] at H;exact H
      clear H;have H:=H1;clear H1;obtain rfl:=zS H;have p5 : 0≤(x6_1 : Int):=zy (by first|(with_reducible assumption)|assumption);have q5 : x6_1<(a0.size : Int):=zy (by first|(with_reducible assumption)|assumption);have hx5:=bt_at a0 x6_1;replace p5:=eq_true p5;replace q5:=eq_true q5
      go_wp2_with (first|((with_reducible refine zI (f:=32) rfl ?_);refine yg (some 12) rfl rfl Try.func32 (by kernel_rfl) rfl #[.int .u8 (bt a0 x6_1)] rfl (by (try simp only [zt,zu,zv]);first|done|rfl|(simp only [zw,zx];rfl)|(simp only [yo,yp,zT,zU];rfl)) ?_;(with_reducible refine (impl_isLetter.calls  (bt a0 x6_1) false _ A6.out).mono ?_);rintro e w' ⟨rfl,⟨nd,rfl⟩⟩;refine ⟨_,rfl,?_⟩;have p8 : 0≤(x6_1 : Int):=zy (by first|(with_reducible assumption)|assumption);have q8 : x6_1<(a0.size : Int):=zy (by first|(with_reducible assumption)|assumption);have hx8:=bt_at a0 x6_1;replace p8:=eq_true p8;replace q8:=eq_true q8)|(go_at_call 33;(with_reducible refine (impl_isDigit.calls  (bt a0 x6_1) false _ A9.out).mono ?_);rintro e w' ⟨rfl,⟨nd,rfl⟩⟩))
      go_ret
      exact ⟨by first|rfl|(simp;done)|(simp [*];done),by repeat (first|exact ym _|apply yn)⟩
     rw [if_neg c4] at H;exact absurd H (by simp)
    rw [if_neg c3] at H;exact absurd H (by simp)
   rw [if_neg c2] at H;have c2b0 : decide (x6_1<(a0.size : Int))=false:=decide_eq_false c2;clear c2;replace H:=zR.mp H;obtain ⟨t126,A120,H⟩:=H;replace H : (some t126)=some r:=H;have A12:=zh A120;clear A120;obtain rfl:=zS H
   go_wp2_with (first|((with_reducible refine zI (f:=34) rfl ?_);refine yg (some 28) rfl rfl Try.func34 (by kernel_rfl) rfl #[.int .i64 (a0.size : Int),.int .i64 1,.int .i64 40] rfl (by (try simp only [zt,zu,zv]);first|done|rfl|(simp only [zw,zx];rfl)|(simp only [yo,yp,zT,zU];rfl)) ?_;(with_reducible refine (impl_inRange.calls  (a0.size : Int) 1 40 t126 _ A12.out).mono ?_);rintro e w' ⟨rfl,⟨nd,rfl⟩⟩;refine ⟨_,rfl,?_⟩))
   go_ret
   exact ⟨by first|rfl|(simp;done)|(simp [*];done),by repeat (first|exact ym _|apply yn)⟩

end Go.Proofs.Ytncpldpddbjdgaa.Q
end
section
namespace Go.Proofs.Ytncpldpddbjdgaa.Q
open Go.RowKit Go.Proofs.YtncpldpddbjdgaaW.PrintWords Go.Proofs.YtncpldpddbjdgaaW.PrintLast Go.Proofs.YtncpldpddbjdgaaW.PrintMore
attribute [local go_sem] max2_int min2_int max_two min_two max_three min_three max_four min_four max2_str min2_str str_geq str_gtr str_leq   -- for this text's walks alone
set_option linter.unusedVariables false
set_option linter.unusedSimpArgs false

def impl_isShort.f (k : Nat) (a0 : ByteArray) : Option (Bool):=if (a0.size : Int)≤12 then ((impl_NameOK.f k a0).bind fun t129 => (some t129)) else (some false)
theorem impl_isShort.mono : ∀ a0 k,LeO (impl_isShort.f k a0) (impl_isShort.f (k + 1) a0):=by
 intro a0 k;unfold impl_isShort.f
 repeat' first|(with_reducible exact impl_NameOK.mono _ _)|(with_reducible exact zO _)|(with_reducible exact zL _)|(with_reducible refine zN ?_ ?_)|(with_reducible refine zM ?_ (fun _ => ?_))|refine zN ?_ ?_|refine zM ?_ (fun _ => ?_)
set_option maxHeartbeats 8000000 in
set_option maxRecDepth 100000 in
theorem impl_isShort.calls (k : Nat) (a0 : ByteArray) (r : Bool) (w : World) (h : impl_isShort.f k a0=some r) :
  Calls Try.prog 12 #[.string a0] w fun e w' => e = .returned (.bool r)∧Drawn0 w w':=by
 have H : (if (a0.size : Int)≤12 then ((impl_NameOK.f k a0).bind fun t129 => (some t129)) else (some false))=some r:=h;clear h
 by_cases c2 : (a0.size : Int)≤12
 ·
  rw [if_pos c2] at H
  have c2b0 : decide ((a0.size : Int)≤12)=true:=decide_eq_true c2;have c2b1 : decide (a0.size≤12)=true:=decide_eq_true (by omega);clear c2;replace H:=zR.mp H;obtain ⟨t129,A30,H⟩:=H;replace H : (some t129)=some r:=H;have A3:=zh A30;clear A30;obtain rfl:=zS H
  go_enter Try.func12,Try.ntmps12
  go_wp2_with (first|(go_at_call 22;(with_reducible refine (impl_NameOK.calls k  a0 t129 _ A3.out).mono ?_);rintro e w' ⟨rfl,⟨nd,rfl⟩⟩))
  go_ret
  exact ⟨by first|rfl|(simp;done)|(simp [*];done),by repeat (first|exact ym _|apply yn)⟩
 rw [if_neg c2] at H;have c2b0 : decide ((a0.size : Int)≤12)=false:=decide_eq_false c2;have c2b1 : decide (a0.size≤12)=false:=decide_eq_false (by omega);clear c2;obtain rfl:=zS H
 go_enter Try.func12,Try.ntmps12
 go_wp2
 go_ret
 exact ⟨by first|rfl|(simp;done)|(simp [*];done),by repeat (first|exact ym _|apply yn)⟩

end Go.Proofs.Ytncpldpddbjdgaa.Q
end
section
namespace Go.Proofs.Ytncpldpddbjdgaa.Q
open Go.RowKit Go.Proofs.YtncpldpddbjdgaaW.PrintWords Go.Proofs.YtncpldpddbjdgaaW.PrintLast Go.Proofs.YtncpldpddbjdgaaW.PrintMore
attribute [local go_sem] max2_int min2_int max_two min_two max_three min_three max_four min_four max2_str min2_str str_geq str_gtr str_leq   -- for this text's walks alone
set_option linter.unusedVariables false
set_option linter.unusedSimpArgs false

def impl_NewColl.f (k : Nat) (a0 : ByteArray) : Option (ByteArray×(List (S42))×(List (S46))×Int):=(impl_isLong.f k (([a0] : List ByteArray))).bind fun t134 => (if t134=true then (some ((⟨#[]⟩ : ByteArray),([] : List (S42)),([] : List (S46)),2)) else ((impl_isShort.f k a0).bind fun t135 => (if t135=true then (some (a0,([] : List (S42)),([] : List (S46)),0)) else (some ((⟨#[]⟩ : ByteArray),([] : List (S42)),([] : List (S46)),11)))))
theorem impl_NewColl.mono : ∀ a0 k,LeO (impl_NewColl.f k a0) (impl_NewColl.f (k + 1) a0):=by
 intro a0 k;unfold impl_NewColl.f
 repeat' first|(with_reducible exact impl_isLong.mono _ _)|(with_reducible exact impl_isShort.mono _ _)|(with_reducible exact zO _)|(with_reducible exact zL _)|(with_reducible refine zN ?_ ?_)|(with_reducible refine zM ?_ (fun _ => ?_))|refine zN ?_ ?_|refine zM ?_ (fun _ => ?_)
set_option maxHeartbeats 8000000 in
set_option maxRecDepth 100000 in
theorem impl_NewColl.calls (k : Nat) (a0 : ByteArray) (r1 : ByteArray) (r2 : List (S42)) (r3 : List (S46)) (r4 : Int) (w : World) (h : impl_NewColl.f k a0=some (r1,r2,r3,r4)) :
  Calls Try.prog 5 #[.string a0] w fun e w' => ∃ v1_ v2_ : Value,e = .returned (.tuple #[.agg #[.string r1,v1_,v2_],.int .i64 r4])∧Kd.S k42 42 w' w.heap.size (fun _ => True) v1_ r2∧Kd.S k46 46 w' w.heap.size (fun _ => True) v2_ r3∧Below w.heap.size w w':=by
 have hu25:=Try.underlying25;have HB:=zh (Below.refl w.heap.size w);have H : ((impl_isLong.f k (([a0] : List ByteArray))).bind fun t134 => (if t134=true then (some ((⟨#[]⟩ : ByteArray),([] : List (S42)),([] : List (S46)),2)) else ((impl_isShort.f k a0).bind fun t135 => (if t135=true then (some (a0,([] : List (S42)),([] : List (S46)),0)) else (some ((⟨#[]⟩ : ByteArray),([] : List (S42)),([] : List (S46)),11))))))=some (r1,r2,r3,r4):=h;clear h;obtain ⟨y131,hy131⟩ : ∃ y_ : List ByteArray,y_=(([a0] : List ByteArray)):=⟨_,rfl⟩;replace H : ((impl_isLong.f k y131).bind fun t134 => (if t134=true then (some ((⟨#[]⟩ : ByteArray),([] : List (S42)),([] : List (S46)),2)) else ((impl_isShort.f k a0).bind fun t135 => (if t135=true then (some (a0,([] : List (S42)),([] : List (S46)),0)) else (some ((⟨#[]⟩ : ByteArray),([] : List (S42)),([] : List (S46)),11))))))=some (r1,r2,r3,r4):=by first|(rw [hy131];with_reducible exact H)|(have H2_:=(Option.bind_some _ _).symm.trans H;rw [hy131];with_reducible exact H2_)|(have H2_:=(Option.bind_some _ _).symm.trans H;with_reducible exact H2_)|with_reducible exact H|(rw [hy131];exact H)|exact H
 have Ny131:=zh hy131;clear hy131;replace H:=zR.mp H;obtain ⟨t134,A20,H⟩:=H;replace H : (if t134=true then (some ((⟨#[]⟩ : ByteArray),([] : List (S42)),([] : List (S46)),2)) else ((impl_isShort.f k a0).bind fun t135 => (if t135=true then (some (a0,([] : List (S42)),([] : List (S46)),0)) else (some ((⟨#[]⟩ : ByteArray),([] : List (S42)),([] : List (S46)),11)))))=some (r1,r2,r3,r4):=H;have A2:=zh A20;clear A20
 by_cases c3 : t134=true
 ·
  subst c3
  have H1 : (some ((⟨#[]⟩ : ByteArray),([] : List (S42)),([] : List (S46)),2))=some (r1,r2,r3,r4):=by rw [if_pos rfl] at H;exact H
  clear H;have H:=H1;clear H1;simp only [Option.some.injEq,Prod.mk.injEq] at H;obtain ⟨rfl,rfl,rfl,rfl⟩:=H
  go_enter Try.func5,Try.ntmps5
  go_wp2_with (first|((with_reducible refine zJ (N:=2) rfl ?_);refine zH ?hg (N:=2) ?hd (cs:=#[.string (⟨#[]⟩ : ByteArray),.slice none 0 0,.slice none 0 0]) (t:=25) ?hr ?_;(case hd => rfl);(case hg => rfl);(case hr => first|(go_simp;done)|(go_simp;rfl));intro gb130 hg w4 hbox hb;have BK130:=zh (hbox);have GW130:=zh ((by rw [hg];exact (zB (by repeat (with_reducible first|exact HB.out|apply za|apply zb|apply zc))) : w.heap.size≤gb130));have GE130:=zh ((by rw [hg];exact (zB (by repeat (with_reducible first|exact HB.out|apply za|apply zb|apply zc))) : w.heap.size≤gb130));replace HB:=zh (zC (by repeat (with_reducible first|exact HB.out|apply za|apply zb|apply zc)) hb);clear hb hbox hg)|((with_reducible refine zJ (N:=6) rfl ?_);refine Kd.R_lit Kd.string _ 9 ?hg (N:=6) ?hd (xs:=([a0] : List ByteArray)) (inner:=[.string a0]) (ok:=fun _ => True) (okp:=fun _ => True) ?hr ?hp (fun _ hk => hk) trivial (Below.refl _ _) (yc _) (by simp) ?_;(case hd => rfl);(case hg => rfl);(case hr => first|(go_simp;done)|(go_simp;rfl));(case hp => exact (Reps.one (show Kd.M Kd.string _ _ _ a0 [.string a0] from rfl) (Reps.none _ _)));intro v132 w5 ho6 hb hg_ hnew_;clear hg_ hnew_;(first|rw [← Ny131.out] at ho6|(simp only [Int.reduceToNat] at ho6;rw [← Ny131.out] at ho6));have HO133:=zh (yu ho6 (zB (by repeat (with_reducible first|exact HB.out|apply za|apply zb|apply zc|refine zd ?_ GE130.out))));replace BK130:=zh (zD (g:=gb130) (o:=.cells #[.string (⟨#[]⟩ : ByteArray),.slice none 0 0,.slice none 0 0] 25 (0,0)) (by (with_reducible repeat (first|refine ze ?_ _|refine zf ?_|refine zg ?_ _));exact BK130.out) hb);replace HB:=zh (zC (by repeat (with_reducible first|exact HB.out|apply za|apply zb|apply zc|refine zd ?_ GE130.out)) hb);clear hb ho6;obtain ⟨Ao7,co7,eo7⟩:=yh HO133.out;subst eo7)|((with_reducible refine zI (f:=11) rfl ?_);refine yg (some 7) rfl rfl Try.func11 (by kernel_rfl) rfl #[.slice Ao7 y131.length co7] rfl (by (try simp only [zt,zu,zv]);first|done|rfl|(simp only [zw,zx];rfl)|(simp only [yo,yp,zT,zU];rfl)) ?_;(with_reducible refine (impl_isLong.calls k  _ _ y131 true _ ?side1 ?side2 A2.out).mono ?_);(case side1 => repeat (first|exact (ye HO133.out).2.2|(with_reducible refine Kd.C_alloc ?_ _)|(with_reducible refine Kd.C_drewN ?_ _)|(with_reducible refine Kd.C_drew ?_)));(case side2 => exact (ye HO133.out).2.1);rintro e w8 ⟨rfl,hb⟩;refine ⟨_,rfl,?_⟩;replace HO133:=zh (yd (by (with_reducible repeat (first|apply zm|apply zn|apply zo));exact HO133.out) hb);replace BK130:=zh (zD (g:=gb130) (o:=.cells #[.string (⟨#[]⟩ : ByteArray),.slice none 0 0,.slice none 0 0] 25 (0,0)) (by (with_reducible repeat (first|refine ze ?_ _|refine zf ?_|refine zg ?_ _));exact BK130.out) hb);replace HB:=zh (zC (by repeat (with_reducible first|exact HB.out|apply za|apply zb|apply zc|refine zd ?_ GE130.out)) hb);(try clear hb);(try clear hb2);(try clear hk);(try clear hi);have hcz9_0 : w8.cell? ⟨gb130,0,none⟩=some (.string (⟨#[]⟩ : ByteArray)):=(zz BK130.out 0).trans rfl;have hcz9_1 : w8.cell? ⟨gb130,1,none⟩=some (.slice none 0 0):=(zz BK130.out 1).trans rfl;have hcz9_2 : w8.cell? ⟨gb130,2,none⟩=some (.slice none 0 0):=(zz BK130.out 2).trans rfl;have hfz9_0:=zA BK130.out 0;have hfz9_1:=zA BK130.out 1;have hfz9_2:=zA BK130.out 2))
  refine bodyPost_ret (results_ct rfl _ _ gb130 25 #[.string (⟨#[]⟩ : ByteArray),.slice none 0 0,.slice none 0 0] (0,0) _ rfl (by (with_reducible repeat (first|refine ze ?_ _|refine zf ?_|refine zg ?_ _));refine zK (cs:=#[.string (⟨#[]⟩ : ByteArray),.slice none 0 0,.slice none 0 0]) ?_ 2 _ rfl;(with_reducible repeat (first|refine ze ?_ _|refine zf ?_|refine zg ?_ _));refine zK (cs:=#[.string (⟨#[]⟩ : ByteArray),.slice none 0 0,.slice none 0 0]) ?_ 1 _ rfl;(with_reducible repeat (first|refine ze ?_ _|refine zf ?_|refine zg ?_ _));refine zK (cs:=#[.string (⟨#[]⟩ : ByteArray),.slice none 0 0,.slice none 0 0]) ?_ 0 _ rfl;(with_reducible repeat (first|refine ze ?_ _|refine zf ?_|refine zg ?_ _));exact BK130.out) Try.underlying25 rfl (by kernel_rfl)) rfl ?_;exact ⟨_,_,by first|rfl|(simp [yq,yr] <;> rfl)|(simp [*,yq,yr] <;> rfl),by first|exact Kd.S_nil _ _ _ _ _|exact Kd.N_nil _ _ _ _ _|exact Kd.V_nil _ _ _ _ _|exact Kd.Q_nil _ _ _ _ _|exact Kd.R_nil _ _ _ _ _,by first|exact Kd.S_nil _ _ _ _ _|exact Kd.N_nil _ _ _ _ _|exact Kd.V_nil _ _ _ _ _|exact Kd.Q_nil _ _ _ _ _|exact Kd.R_nil _ _ _ _ _,by repeat (with_reducible first|exact HB.out|apply za|apply zb|apply zc|refine zd ?_ GE130.out)⟩
 replace c3:=zZ.mpr c3;subst c3;have H1 : ((impl_isShort.f k a0).bind fun t135 => (if t135=true then (some (a0,([] : List (S42)),([] : List (S46)),0)) else (some ((⟨#[]⟩ : ByteArray),([] : List (S42)),([] : List (S46)),11))))=some (r1,r2,r3,r4):=by rw [if_neg (show ¬ (false=true) by decide)] at H;exact H
 clear H;have H:=H1;clear H1;replace H:=zR.mp H;obtain ⟨t135,A100,H⟩:=H;replace H : (if t135=true then (some (a0,([] : List (S42)),([] : List (S46)),0)) else (some ((⟨#[]⟩ : ByteArray),([] : List (S42)),([] : List (S46)),11)))=some (r1,r2,r3,r4):=H;have A10:=zh A100;clear A100
 by_cases c11 : t135=true
 ·
  subst c11
  have H1 : (some (a0,([] : List (S42)),([] : List (S46)),0))=some (r1,r2,r3,r4):=by rw [if_pos rfl] at H;exact H
  clear H;have H:=H1;clear H1;simp only [Option.some.injEq,Prod.mk.injEq] at H;obtain ⟨rfl,rfl,rfl,rfl⟩:=H
  go_enter Try.func5,Try.ntmps5
  go_wp2_with (first|((with_reducible refine zJ (N:=2) rfl ?_);refine zH ?hg (N:=2) ?hd (cs:=#[.string (⟨#[]⟩ : ByteArray),.slice none 0 0,.slice none 0 0]) (t:=25) ?hr ?_;(case hd => rfl);(case hg => rfl);(case hr => first|(go_simp;done)|(go_simp;rfl));intro gb130 hg w12 hbox hb;have BK130:=zh (hbox);have GW130:=zh ((by rw [hg];exact (zB (by repeat (with_reducible first|exact HB.out|apply za|apply zb|apply zc))) : w.heap.size≤gb130));have GE130:=zh ((by rw [hg];exact (zB (by repeat (with_reducible first|exact HB.out|apply za|apply zb|apply zc))) : w.heap.size≤gb130));replace HB:=zh (zC (by repeat (with_reducible first|exact HB.out|apply za|apply zb|apply zc)) hb);clear hb hbox hg)|((with_reducible refine zJ (N:=6) rfl ?_);refine Kd.R_lit Kd.string _ 9 ?hg (N:=6) ?hd (xs:=([a0] : List ByteArray)) (inner:=[.string a0]) (ok:=fun _ => True) (okp:=fun _ => True) ?hr ?hp (fun _ hk => hk) trivial (Below.refl _ _) (yc _) (by simp) ?_;(case hd => rfl);(case hg => rfl);(case hr => first|(go_simp;done)|(go_simp;rfl));(case hp => exact (Reps.one (show Kd.M Kd.string _ _ _ a0 [.string a0] from rfl) (Reps.none _ _)));intro v132 w13 ho14 hb hg_ hnew_;clear hg_ hnew_;(first|rw [← Ny131.out] at ho14|(simp only [Int.reduceToNat] at ho14;rw [← Ny131.out] at ho14));have HO133:=zh (yu ho14 (zB (by repeat (with_reducible first|exact HB.out|apply za|apply zb|apply zc|refine zd ?_ GE130.out))));replace BK130:=zh (zD (g:=gb130) (o:=.cells #[.string (⟨#[]⟩ : ByteArray),.slice none 0 0,.slice none 0 0] 25 (0,0)) (by (with_reducible repeat (first|refine ze ?_ _|refine zf ?_|refine zg ?_ _));exact BK130.out) hb);replace HB:=zh (zC (by repeat (with_reducible first|exact HB.out|apply za|apply zb|apply zc|refine zd ?_ GE130.out)) hb);clear hb ho14;obtain ⟨Ao15,co15,eo15⟩:=yh HO133.out;subst eo15)|((with_reducible refine zI (f:=11) rfl ?_);refine yg (some 7) rfl rfl Try.func11 (by kernel_rfl) rfl #[.slice Ao15 y131.length co15] rfl (by (try simp only [zt,zu,zv]);first|done|rfl|(simp only [zw,zx];rfl)|(simp only [yo,yp,zT,zU];rfl)) ?_;(with_reducible refine (impl_isLong.calls k  _ _ y131 false _ ?side1 ?side2 A2.out).mono ?_);(case side1 => repeat (first|exact (ye HO133.out).2.2|(with_reducible refine Kd.C_alloc ?_ _)|(with_reducible refine Kd.C_drewN ?_ _)|(with_reducible refine Kd.C_drew ?_)));(case side2 => exact (ye HO133.out).2.1);rintro e w16 ⟨rfl,hb⟩;refine ⟨_,rfl,?_⟩;replace HO133:=zh (yd (by (with_reducible repeat (first|apply zm|apply zn|apply zo));exact HO133.out) hb);replace BK130:=zh (zD (g:=gb130) (o:=.cells #[.string (⟨#[]⟩ : ByteArray),.slice none 0 0,.slice none 0 0] 25 (0,0)) (by (with_reducible repeat (first|refine ze ?_ _|refine zf ?_|refine zg ?_ _));exact BK130.out) hb);replace HB:=zh (zC (by repeat (with_reducible first|exact HB.out|apply za|apply zb|apply zc|refine zd ?_ GE130.out)) hb);(try clear hb);(try clear hb2);(try clear hk);(try clear hi))|((with_reducible refine zI (f:=12) rfl ?_);refine yg (some 11) rfl rfl Try.func12 (by kernel_rfl) rfl #[.string a0] rfl (by (try simp only [zt,zu,zv]);first|done|rfl|(simp only [zw,zx];rfl)|(simp only [yo,yp,zT,zU];rfl)) ?_;(with_reducible refine (impl_isShort.calls k  a0 true _ A10.out).mono ?_);rintro e w' ⟨rfl,⟨nd,rfl⟩⟩;refine ⟨_,rfl,?_⟩;(try (rw [drewN_self w16];generalize hq_ : World.drewN w16 _=w16;replace HO133 : Aside0 (Kd.R Kd.string 9 w16 w.heap.size (fun _ => True) (.slice Ao15 y131.length co15) y131):=⟨by rw [← hq_];exact (by (with_reducible repeat (first|apply zm|apply zn|apply zo));exact HO133.out)⟩;replace BK130 : Aside0 (w16.heap[gb130]? = some (.cells #[.string (⟨#[]⟩ : ByteArray),.slice none 0 0,.slice none 0 0] 25 (0,0))):=⟨by rw [← hq_];exact (by (with_reducible repeat (first|refine ze ?_ _|refine zf ?_|refine zg ?_ _));exact BK130.out)⟩;replace HB : Aside0 (Below w.heap.size w w16):=⟨by rw [← hq_];exact (by repeat (with_reducible first|exact HB.out|apply za|apply zb|apply zc|refine zd ?_ GE130.out))⟩;clear hq_));have hcz17_0 : w16.cell? ⟨gb130,0,none⟩=some (.string (⟨#[]⟩ : ByteArray)):=(zz BK130.out 0).trans rfl;have hcz17_1 : w16.cell? ⟨gb130,1,none⟩=some (.slice none 0 0):=(zz BK130.out 1).trans rfl;have hcz17_2 : w16.cell? ⟨gb130,2,none⟩=some (.slice none 0 0):=(zz BK130.out 2).trans rfl;have hfz17_0:=zA BK130.out 0;have hfz17_1:=zA BK130.out 1;have hfz17_2:=zA BK130.out 2))
  refine bodyPost_ret (results_ct rfl _ _ gb130 25 #[.string a0,.slice none 0 0,.slice none 0 0] (0,0) _ rfl (by (with_reducible repeat (first|refine ze ?_ _|refine zf ?_|refine zg ?_ _));refine zK (cs:=#[.string a0,.slice none 0 0,.slice none 0 0]) ?_ 2 _ rfl;(with_reducible repeat (first|refine ze ?_ _|refine zf ?_|refine zg ?_ _));refine zK (cs:=#[.string a0,.slice none 0 0,.slice none 0 0]) ?_ 1 _ rfl;(with_reducible repeat (first|refine ze ?_ _|refine zf ?_|refine zg ?_ _));refine zK (cs:=#[.string (⟨#[]⟩ : ByteArray),.slice none 0 0,.slice none 0 0]) ?_ 0 _ rfl;(with_reducible repeat (first|refine ze ?_ _|refine zf ?_|refine zg ?_ _));exact BK130.out) Try.underlying25 rfl (by kernel_rfl)) rfl ?_;exact ⟨_,_,by first|rfl|(simp [yq,yr] <;> rfl)|(simp [*,yq,yr] <;> rfl),by first|exact Kd.S_nil _ _ _ _ _|exact Kd.N_nil _ _ _ _ _|exact Kd.V_nil _ _ _ _ _|exact Kd.Q_nil _ _ _ _ _|exact Kd.R_nil _ _ _ _ _,by first|exact Kd.S_nil _ _ _ _ _|exact Kd.N_nil _ _ _ _ _|exact Kd.V_nil _ _ _ _ _|exact Kd.Q_nil _ _ _ _ _|exact Kd.R_nil _ _ _ _ _,by repeat (with_reducible first|exact HB.out|apply za|apply zb|apply zc|refine zd ?_ GE130.out)⟩
 replace c11:=zZ.mpr c11;subst c11;have H1 : (some ((⟨#[]⟩ : ByteArray),([] : List (S42)),([] : List (S46)),11))=some (r1,r2,r3,r4):=by rw [if_neg (show ¬ (false=true) by decide)] at H;exact H
 clear H;have H:=H1;clear H1;simp only [Option.some.injEq,Prod.mk.injEq] at H;obtain ⟨rfl,rfl,rfl,rfl⟩:=H
 go_enter Try.func5,Try.ntmps5
 go_wp2_with (first|((with_reducible refine zJ (N:=2) rfl ?_);refine zH ?hg (N:=2) ?hd (cs:=#[.string (⟨#[]⟩ : ByteArray),.slice none 0 0,.slice none 0 0]) (t:=25) ?hr ?_;(case hd => rfl);(case hg => rfl);(case hr => first|(go_simp;done)|(go_simp;rfl));intro gb130 hg w18 hbox hb;have BK130:=zh (hbox);have GW130:=zh ((by rw [hg];exact (zB (by repeat (with_reducible first|exact HB.out|apply za|apply zb|apply zc))) : w.heap.size≤gb130));have GE130:=zh ((by rw [hg];exact (zB (by repeat (with_reducible first|exact HB.out|apply za|apply zb|apply zc))) : w.heap.size≤gb130));replace HB:=zh (zC (by repeat (with_reducible first|exact HB.out|apply za|apply zb|apply zc)) hb);clear hb hbox hg)|((with_reducible refine zJ (N:=6) rfl ?_);refine Kd.R_lit Kd.string _ 9 ?hg (N:=6) ?hd (xs:=([a0] : List ByteArray)) (inner:=[.string a0]) (ok:=fun _ => True) (okp:=fun _ => True) ?hr ?hp (fun _ hk => hk) trivial (Below.refl _ _) (yc _) (by simp) ?_;(case hd => rfl);(case hg => rfl);(case hr => first|(go_simp;done)|(go_simp;rfl));(case hp => exact (Reps.one (show Kd.M Kd.string _ _ _ a0 [.string a0] from rfl) (Reps.none _ _)));intro v132 w19 ho20 hb hg_ hnew_;clear hg_ hnew_;(first|rw [← Ny131.out] at ho20|(simp only [Int.reduceToNat] at ho20;rw [← Ny131.out] at ho20));have HO133:=zh (yu ho20 (zB (by repeat (with_reducible first|exact HB.out|apply za|apply zb|apply zc|refine zd ?_ GE130.out))));replace BK130:=zh (zD (g:=gb130) (o:=.cells #[.string (⟨#[]⟩ : ByteArray),.slice none 0 0,.slice none 0 0] 25 (0,0)) (by (with_reducible repeat (first|refine ze ?_ _|refine zf ?_|refine zg ?_ _));exact BK130.out) hb);replace HB:=zh (zC (by repeat (with_reducible first|exact HB.out|apply za|apply zb|apply zc|refine zd ?_ GE130.out)) hb);clear hb ho20;obtain ⟨Ao21,co21,eo21⟩:=yh HO133.out;subst eo21)|((with_reducible refine zI (f:=11) rfl ?_);refine yg (some 7) rfl rfl Try.func11 (by kernel_rfl) rfl #[.slice Ao21 y131.length co21] rfl (by (try simp only [zt,zu,zv]);first|done|rfl|(simp only [zw,zx];rfl)|(simp only [yo,yp,zT,zU];rfl)) ?_;(with_reducible refine (impl_isLong.calls k  _ _ y131 false _ ?side1 ?side2 A2.out).mono ?_);(case side1 => repeat (first|exact (ye HO133.out).2.2|(with_reducible refine Kd.C_alloc ?_ _)|(with_reducible refine Kd.C_drewN ?_ _)|(with_reducible refine Kd.C_drew ?_)));(case side2 => exact (ye HO133.out).2.1);rintro e w22 ⟨rfl,hb⟩;refine ⟨_,rfl,?_⟩;replace HO133:=zh (yd (by (with_reducible repeat (first|apply zm|apply zn|apply zo));exact HO133.out) hb);replace BK130:=zh (zD (g:=gb130) (o:=.cells #[.string (⟨#[]⟩ : ByteArray),.slice none 0 0,.slice none 0 0] 25 (0,0)) (by (with_reducible repeat (first|refine ze ?_ _|refine zf ?_|refine zg ?_ _));exact BK130.out) hb);replace HB:=zh (zC (by repeat (with_reducible first|exact HB.out|apply za|apply zb|apply zc|refine zd ?_ GE130.out)) hb);(try clear hb);(try clear hb2);(try clear hk);(try clear hi))|((with_reducible refine zI (f:=12) rfl ?_);refine yg (some 11) rfl rfl Try.func12 (by kernel_rfl) rfl #[.string a0] rfl (by (try simp only [zt,zu,zv]);first|done|rfl|(simp only [zw,zx];rfl)|(simp only [yo,yp,zT,zU];rfl)) ?_;(with_reducible refine (impl_isShort.calls k  a0 false _ A10.out).mono ?_);rintro e w' ⟨rfl,⟨nd,rfl⟩⟩;refine ⟨_,rfl,?_⟩;(try (rw [drewN_self w22];generalize hq_ : World.drewN w22 _=w22;replace HO133 : Aside0 (Kd.R Kd.string 9 w22 w.heap.size (fun _ => True) (.slice Ao21 y131.length co21) y131):=⟨by rw [← hq_];exact (by (with_reducible repeat (first|apply zm|apply zn|apply zo));exact HO133.out)⟩;replace BK130 : Aside0 (w22.heap[gb130]? = some (.cells #[.string (⟨#[]⟩ : ByteArray),.slice none 0 0,.slice none 0 0] 25 (0,0))):=⟨by rw [← hq_];exact (by (with_reducible repeat (first|refine ze ?_ _|refine zf ?_|refine zg ?_ _));exact BK130.out)⟩;replace HB : Aside0 (Below w.heap.size w w22):=⟨by rw [← hq_];exact (by repeat (with_reducible first|exact HB.out|apply za|apply zb|apply zc|refine zd ?_ GE130.out))⟩;clear hq_));have hcz23_0 : w22.cell? ⟨gb130,0,none⟩=some (.string (⟨#[]⟩ : ByteArray)):=(zz BK130.out 0).trans rfl;have hcz23_1 : w22.cell? ⟨gb130,1,none⟩=some (.slice none 0 0):=(zz BK130.out 1).trans rfl;have hcz23_2 : w22.cell? ⟨gb130,2,none⟩=some (.slice none 0 0):=(zz BK130.out 2).trans rfl;have hfz23_0:=zA BK130.out 0;have hfz23_1:=zA BK130.out 1;have hfz23_2:=zA BK130.out 2))
 refine bodyPost_ret (results_ct rfl _ _ gb130 25 #[.string (⟨#[]⟩ : ByteArray),.slice none 0 0,.slice none 0 0] (0,0) _ rfl (by (with_reducible repeat (first|refine ze ?_ _|refine zf ?_|refine zg ?_ _));refine zK (cs:=#[.string (⟨#[]⟩ : ByteArray),.slice none 0 0,.slice none 0 0]) ?_ 2 _ rfl;(with_reducible repeat (first|refine ze ?_ _|refine zf ?_|refine zg ?_ _));refine zK (cs:=#[.string (⟨#[]⟩ : ByteArray),.slice none 0 0,.slice none 0 0]) ?_ 1 _ rfl;(with_reducible repeat (first|refine ze ?_ _|refine zf ?_|refine zg ?_ _));refine zK (cs:=#[.string (⟨#[]⟩ : ByteArray),.slice none 0 0,.slice none 0 0]) ?_ 0 _ rfl;(with_reducible repeat (first|refine ze ?_ _|refine zf ?_|refine zg ?_ _));exact BK130.out) Try.underlying25 rfl (by kernel_rfl)) rfl ?_;exact ⟨_,_,by first|rfl|(simp [yq,yr] <;> rfl)|(simp [*,yq,yr] <;> rfl),by first|exact Kd.S_nil _ _ _ _ _|exact Kd.N_nil _ _ _ _ _|exact Kd.V_nil _ _ _ _ _|exact Kd.Q_nil _ _ _ _ _|exact Kd.R_nil _ _ _ _ _,by first|exact Kd.S_nil _ _ _ _ _|exact Kd.N_nil _ _ _ _ _|exact Kd.V_nil _ _ _ _ _|exact Kd.Q_nil _ _ _ _ _|exact Kd.R_nil _ _ _ _ _,by repeat (with_reducible first|exact HB.out|apply za|apply zb|apply zc|refine zd ?_ GE130.out)⟩

end Go.Proofs.Ytncpldpddbjdgaa.Q
end
section
namespace Go.Proofs.Ytncpldpddbjdgaa.Q
open Go.RowKit Go.Proofs.YtncpldpddbjdgaaW.PrintWords Go.Proofs.YtncpldpddbjdgaaW.PrintLast Go.Proofs.YtncpldpddbjdgaaW.PrintMore
attribute [local go_sem] max2_int min2_int max_two min_two max_three min_three max_four min_four max2_str min2_str str_geq str_gtr str_leq   -- for this text's walks alone
set_option linter.unusedVariables false
set_option linter.unusedSimpArgs false

def laws_eqChainS.l0 : Nat→List (S42)→Int→Option (Bool)
 | 0,_,_ => none
 | k + 1,x0,x5 => if x5<(x0.length : Int) then (none) else (some true)
def laws_eqChainS.f (k : Nat) (l0 : List (S42)) (l1 : List (S42)) : Option (Bool):=if (l0.length : Int)=(l1.length : Int) then (laws_eqChainS.l0 k l0 0) else (some false)
theorem laws_eqChainS.mono_l : ∀ k,(∀ y0 y1,LeO (laws_eqChainS.l0 k y0 y1) (laws_eqChainS.l0 (k + 1) y0 y1))
 | 0 => fun _ _ r h => by simp [laws_eqChainS.l0] at h
 | k + 1 => by
  have ih0:=laws_eqChainS.mono_l k;intro y0 y1;unfold laws_eqChainS.l0
  repeat' first|(with_reducible exact ih0 _ _)|(with_reducible exact zO _)|(with_reducible exact zL _)|(with_reducible refine zN ?_ ?_)|(with_reducible refine zM ?_ (fun _ => ?_))|refine zN ?_ ?_|refine zM ?_ (fun _ => ?_)
theorem laws_eqChainS.mono : ∀ a0 a1 k,LeO (laws_eqChainS.f k a0 a1) (laws_eqChainS.f (k + 1) a0 a1):=by
 intro a0 a1 k;have ih0:=laws_eqChainS.mono_l k;unfold laws_eqChainS.f
 repeat' first|(with_reducible exact ih0 _ _)|(with_reducible exact zO _)|(with_reducible exact zL _)|(with_reducible refine zN ?_ ?_)|(with_reducible refine zM ?_ (fun _ => ?_))|refine zN ?_ ?_|refine zM ?_ (fun _ => ?_)
set_option maxHeartbeats 8000000 in
set_option maxRecDepth 100000 in
theorem laws_eqChainS.calls (k : Nat) (A0 : Option Addr) (c0 : Nat) (l0 : List (S42)) (A1 : Option Addr) (c1 : Nat) (l1 : List (S42)) (r : Bool) (w : World) (hr0 : Kd.C k42 w A0 l0.length l0) (hc0 : l0.length≤c0) (hr1 : Kd.C k42 w A1 l1.length l1) (hc1 : l1.length≤c1) (h : laws_eqChainS.f k l0 l1=some r) :
  Calls Try.prog 13 #[.slice A0 l0.length c0,.slice A1 l1.length c1] w fun e w' => e = .returned (.bool r)∧Below w.heap.size w w':=by
 have hu42:=Try.underlying42;have HR0:=zh hr0;have HC0:=zh hc0;clear hr0 hc0;have HR1:=zh hr1;have HC1:=zh hc1;clear hr1 hc1;have HB:=zh (Below.refl w.heap.size w);have H : (if (l0.length : Int)=(l1.length : Int) then (laws_eqChainS.l0 k l0 0) else (some false))=some r:=h;clear h
 by_cases c3 : (l0.length : Int)=(l1.length : Int)
 ·
  rw [if_pos c3] at H
  have c3b0 : ((l0.length : Int) == (l1.length : Int))=true:=zY.mpr c3;have c3b1 : ((l0.length : Int) != (l1.length : Int))=false:=zV.mpr c3;have c3b2 : (l0.length == l1.length)=true:=by first|simpa using c3|(simp at c3 ⊢;omega)
  clear c3;have H':=zh H;clear H
  go_enter Try.func13,Try.ntmps13
  go_wp2
  go_loopg [5] k (fun kq v5 w' => ∃ (x5_1 : Int),v5 = .int .i64 x5_1∧Aside0 (laws_eqChainS.l0 kq l0 x5_1=some r)∧Aside0 (kq≤k)∧Aside0 (Below w.heap.size w w'))
  case atStart => exact ⟨(0),(by first|rfl|(simp;done)|(simp [*];done)),H',⟨yc _⟩,⟨by repeat (with_reducible first|exact HB.out|apply za|apply zb|apply zc)⟩⟩
  case round =>
   clear H'
   try clear c1
   try clear p2
   try clear c3
   try clear c3b0
   try clear c3b1
   try clear c3b2
   obtain ⟨x5_1,rfl,HA,HK1,HB⟩:=hrel
   cases gk with
   | zero => exact absurd HA.out (by simp [laws_eqChainS.l0])
   | succ k1 =>
    have H:=HA.out;clear HA;simp only [laws_eqChainS.l0] at H
    by_cases c4 : x5_1<(l0.length : Int)
    ·
     rw [if_pos c4] at H
     exact absurd H (by simp)
    rw [if_neg c4] at H;have c4b0 : decide (x5_1<(l0.length : Int))=false:=decide_eq_false c4;clear c4;obtain rfl:=zS H
    go_wp2
    go_ret
    exact ⟨by first|rfl|(simp [yq,yr] <;> rfl)|(simp [*,yq,yr] <;> rfl),by repeat (with_reducible first|exact HB.out|apply za|apply zb|apply zc)⟩
 rw [if_neg c3] at H;have c3b0 : ((l0.length : Int) == (l1.length : Int))=false:=zW.mpr c3;have c3b1 : ((l0.length : Int) != (l1.length : Int))=true:=zX.mpr c3;have c3b2 : (l0.length == l1.length)=false:=by first|simpa using c3|(simp at c3 ⊢;omega)
 obtain rfl:=zS H
 go_enter Try.func13,Try.ntmps13
 go_wp2
 go_ret
 exact ⟨by first|rfl|(simp [yq,yr] <;> rfl)|(simp [*,yq,yr] <;> rfl),by repeat (with_reducible first|exact HB.out|apply za|apply zb|apply zc)⟩

end Go.Proofs.Ytncpldpddbjdgaa.Q
end
section
namespace Go.Proofs.Ytncpldpddbjdgaa.Q
open Go.RowKit Go.Proofs.YtncpldpddbjdgaaW.PrintWords Go.Proofs.YtncpldpddbjdgaaW.PrintLast Go.Proofs.YtncpldpddbjdgaaW.PrintMore
attribute [local go_sem] max2_int min2_int max_two min_two max_three min_three max_four min_four max2_str min2_str str_geq str_gtr str_leq   -- for this text's walks alone
set_option linter.unusedVariables false
set_option linter.unusedSimpArgs false

def laws_eqDefS.l0 : Nat→List (S46)→Int→Option (Bool)
 | 0,_,_ => none
 | k + 1,x0,x5 => if x5<(x0.length : Int) then (none) else (some true)
def laws_eqDefS.f (k : Nat) (l0 : List (S46)) (l1 : List (S46)) : Option (Bool):=if (l0.length : Int)=(l1.length : Int) then (laws_eqDefS.l0 k l0 0) else (some false)
theorem laws_eqDefS.mono_l : ∀ k,(∀ y0 y1,LeO (laws_eqDefS.l0 k y0 y1) (laws_eqDefS.l0 (k + 1) y0 y1))
 | 0 => fun _ _ r h => by simp [laws_eqDefS.l0] at h
 | k + 1 => by
  have ih0:=laws_eqDefS.mono_l k;intro y0 y1;unfold laws_eqDefS.l0
  repeat' first|(with_reducible exact ih0 _ _)|(with_reducible exact zO _)|(with_reducible exact zL _)|(with_reducible refine zN ?_ ?_)|(with_reducible refine zM ?_ (fun _ => ?_))|refine zN ?_ ?_|refine zM ?_ (fun _ => ?_)
theorem laws_eqDefS.mono : ∀ a0 a1 k,LeO (laws_eqDefS.f k a0 a1) (laws_eqDefS.f (k + 1) a0 a1):=by
 intro a0 a1 k;have ih0:=laws_eqDefS.mono_l k;unfold laws_eqDefS.f
 repeat' first|(with_reducible exact ih0 _ _)|(with_reducible exact zO _)|(with_reducible exact zL _)|(with_reducible refine zN ?_ ?_)|(with_reducible refine zM ?_ (fun _ => ?_))|refine zN ?_ ?_|refine zM ?_ (fun _ => ?_)
set_option maxHeartbeats 8000000 in
set_option maxRecDepth 100000 in
theorem laws_eqDefS.calls (k : Nat) (A0 : Option Addr) (c0 : Nat) (l0 : List (S46)) (A1 : Option Addr) (c1 : Nat) (l1 : List (S46)) (r : Bool) (w : World) (hr0 : Kd.C k46 w A0 l0.length l0) (hc0 : l0.length≤c0) (hr1 : Kd.C k46 w A1 l1.length l1) (hc1 : l1.length≤c1) (h : laws_eqDefS.f k l0 l1=some r) :
  Calls Try.prog 14 #[.slice A0 l0.length c0,.slice A1 l1.length c1] w fun e w' => e = .returned (.bool r)∧Below w.heap.size w w':=by
 have hu46:=Try.underlying46;have HR0:=zh hr0;have HC0:=zh hc0;clear hr0 hc0;have HR1:=zh hr1;have HC1:=zh hc1;clear hr1 hc1;have HB:=zh (Below.refl w.heap.size w);have H : (if (l0.length : Int)=(l1.length : Int) then (laws_eqDefS.l0 k l0 0) else (some false))=some r:=h;clear h
 by_cases c3 : (l0.length : Int)=(l1.length : Int)
 ·
  rw [if_pos c3] at H
  have c3b0 : ((l0.length : Int) == (l1.length : Int))=true:=zY.mpr c3;have c3b1 : ((l0.length : Int) != (l1.length : Int))=false:=zV.mpr c3;have c3b2 : (l0.length == l1.length)=true:=by first|simpa using c3|(simp at c3 ⊢;omega)
  clear c3;have H':=zh H;clear H
  go_enter Try.func14,Try.ntmps14
  go_wp2
  go_loopg [5] k (fun kq v5 w' => ∃ (x5_1 : Int),v5 = .int .i64 x5_1∧Aside0 (laws_eqDefS.l0 kq l0 x5_1=some r)∧Aside0 (kq≤k)∧Aside0 (Below w.heap.size w w'))
  case atStart => exact ⟨(0),(by first|rfl|(simp;done)|(simp [*];done)),H',⟨yc _⟩,⟨by repeat (with_reducible first|exact HB.out|apply za|apply zb|apply zc)⟩⟩
  case round =>
   clear H'
   try clear c1
   try clear p2
   try clear c3
   try clear c3b0
   try clear c3b1
   try clear c3b2
   obtain ⟨x5_1,rfl,HA,HK1,HB⟩:=hrel
   cases gk with
   | zero => exact absurd HA.out (by simp [laws_eqDefS.l0])
   | succ k1 =>
    have H:=HA.out;clear HA;simp only [laws_eqDefS.l0] at H
    by_cases c4 : x5_1<(l0.length : Int)
    ·
     rw [if_pos c4] at H
     exact absurd H (by simp)
    rw [if_neg c4] at H;have c4b0 : decide (x5_1<(l0.length : Int))=false:=decide_eq_false c4;clear c4;obtain rfl:=zS H
    go_wp2
    go_ret
    exact ⟨by first|rfl|(simp [yq,yr] <;> rfl)|(simp [*,yq,yr] <;> rfl),by repeat (with_reducible first|exact HB.out|apply za|apply zb|apply zc)⟩
 rw [if_neg c3] at H;have c3b0 : ((l0.length : Int) == (l1.length : Int))=false:=zW.mpr c3;have c3b1 : ((l0.length : Int) != (l1.length : Int))=true:=zX.mpr c3;have c3b2 : (l0.length == l1.length)=false:=by first|simpa using c3|(simp at c3 ⊢;omega)
 obtain rfl:=zS H
 go_enter Try.func14,Try.ntmps14
 go_wp2
 go_ret
 exact ⟨by first|rfl|(simp [yq,yr] <;> rfl)|(simp [*,yq,yr] <;> rfl),by repeat (with_reducible first|exact HB.out|apply za|apply zb|apply zc)⟩

end Go.Proofs.Ytncpldpddbjdgaa.Q
end
section
namespace Go.Proofs.Ytncpldpddbjdgaa.Q
open Go.RowKit Go.Proofs.YtncpldpddbjdgaaW.PrintWords Go.Proofs.YtncpldpddbjdgaaW.PrintLast Go.Proofs.YtncpldpddbjdgaaW.PrintMore
attribute [local go_sem] max2_int min2_int max_two min_two max_three min_three max_four min_four max2_str min2_str str_geq str_gtr str_leq   -- for this text's walks alone
set_option linter.unusedVariables false
set_option linter.unusedSimpArgs false

def laws_eqColl.f (k : Nat) (a0_0 : ByteArray) (l0_1 : List (S42)) (l0_2 : List (S46)) (a1_0 : ByteArray) (l1_1 : List (S42)) (l1_2 : List (S46)) : Option (Bool):=if a0_0.toList=a1_0.toList then ((laws_eqChainS.f k l0_1 l1_1).bind fun t157 => (if t157=true then ((laws_eqDefS.f k l0_2 l1_2).bind fun t158 => (if t158=true then (some true) else (some false))) else (some false))) else (some false)
theorem laws_eqColl.mono : ∀ a0 a1 a2 a3 a4 a5 k,LeO (laws_eqColl.f k a0 a1 a2 a3 a4 a5) (laws_eqColl.f (k + 1) a0 a1 a2 a3 a4 a5):=by
 intro a0 a1 a2 a3 a4 a5 k;unfold laws_eqColl.f
 repeat' first|(with_reducible exact laws_eqChainS.mono _ _ _)|(with_reducible exact laws_eqDefS.mono _ _ _)|(with_reducible exact zO _)|(with_reducible exact zL _)|(with_reducible refine zN ?_ ?_)|(with_reducible refine zM ?_ (fun _ => ?_))|refine zN ?_ ?_|refine zM ?_ (fun _ => ?_)
set_option maxHeartbeats 8000000 in
set_option maxRecDepth 100000 in
theorem laws_eqColl.calls (k : Nat) (a0_0 : ByteArray) (A0_1 : Option Addr) (c0_1 : Nat) (l0_1 : List (S42)) (A0_2 : Option Addr) (c0_2 : Nat) (l0_2 : List (S46)) (a1_0 : ByteArray) (A1_1 : Option Addr) (c1_1 : Nat) (l1_1 : List (S42)) (A1_2 : Option Addr) (c1_2 : Nat) (l1_2 : List (S46)) (r : Bool) (w : World) (hr0_1 : Kd.C k42 w A0_1 l0_1.length l0_1) (hc0_1 : l0_1.length≤c0_1) (hr0_2 : Kd.C k46 w A0_2 l0_2.length l0_2) (hc0_2 : l0_2.length≤c0_2) (hr1_1 : Kd.C k42 w A1_1 l1_1.length l1_1) (hc1_1 : l1_1.length≤c1_1) (hr1_2 : Kd.C k46 w A1_2 l1_2.length l1_2) (hc1_2 : l1_2.length≤c1_2) (h : laws_eqColl.f k a0_0 l0_1 l0_2 a1_0 l1_1 l1_2=some r) :
  Calls Try.prog 6 #[.agg #[.string a0_0,.slice A0_1 l0_1.length c0_1,.slice A0_2 l0_2.length c0_2],.agg #[.string a1_0,.slice A1_1 l1_1.length c1_1,.slice A1_2 l1_2.length c1_2]] w fun e w' => e = .returned (.bool r)∧Below w.heap.size w w':=by
 have hu25:=Try.underlying25;have HR0_1:=zh hr0_1;have HC0_1:=zh hc0_1;clear hr0_1 hc0_1;have HR0_2:=zh hr0_2;have HC0_2:=zh hc0_2;clear hr0_2 hc0_2;have HR1_1:=zh hr1_1;have HC1_1:=zh hc1_1;clear hr1_1 hc1_1;have HR1_2:=zh hr1_2;have HC1_2:=zh hc1_2;clear hr1_2 hc1_2;have HB:=zh (Below.refl w.heap.size w);have H : (if a0_0.toList=a1_0.toList then ((laws_eqChainS.f k l0_1 l1_1).bind fun t157 => (if t157=true then ((laws_eqDefS.f k l0_2 l1_2).bind fun t158 => (if t158=true then (some true) else (some false))) else (some false))) else (some false))=some r:=h;clear h
 by_cases c3 : a0_0.toList=a1_0.toList
 ·
  rw [if_pos c3] at H
  have c3b0 : (a0_0.toList == a1_0.toList)=true:=zY.mpr c3;have c3b1 : (a0_0.toList != a1_0.toList)=false:=zV.mpr c3;clear c3;replace H:=zR.mp H;obtain ⟨t157,A40,H⟩:=H;replace H : (if t157=true then ((laws_eqDefS.f k l0_2 l1_2).bind fun t158 => (if t158=true then (some true) else (some false))) else (some false))=some r:=H;have A4:=zh A40;clear A40
  by_cases c5 : t157=true
  ·
   subst c5
   have H1 : ((laws_eqDefS.f k l0_2 l1_2).bind fun t158 => (if t158=true then (some true) else (some false)))=some r:=by rw [if_pos rfl] at H;exact H
   clear H;have H:=H1;clear H1;replace H:=zR.mp H;obtain ⟨t158,A60,H⟩:=H;replace H : (if t158=true then (some true) else (some false))=some r:=H;have A6:=zh A60;clear A60
   by_cases c7 : t158=true
   ·
    subst c7
    have H1 : (some true)=some r:=by rw [if_pos rfl] at H;exact H
    clear H;have H:=H1;clear H1;obtain rfl:=zS H
    go_enter Try.func6,Try.ntmps6
    go_wp2_with (first|((with_reducible refine zJ (N:=2) rfl ?_);refine zH ?hg (N:=2) ?hd (cs:=#[.string a0_0,.slice A0_1 l0_1.length c0_1,.slice A0_2 l0_2.length c0_2]) (t:=25) ?hr ?_;(case hd => rfl);(case hg => rfl);(case hr => first|(go_simp;done)|(go_simp;rfl));intro gb155 hg w8 hbox hb;have BK155:=zh (hbox);have GW155:=zh ((by rw [hg];exact (zB (by repeat (with_reducible first|exact HB.out|apply za|apply zb|apply zc))) : w.heap.size≤gb155));have GE155:=zh ((by rw [hg];exact (zB (by repeat (with_reducible first|exact HB.out|apply za|apply zb|apply zc))) : w.heap.size≤gb155));replace HB:=zh (zC (by repeat (with_reducible first|exact HB.out|apply za|apply zb|apply zc)) hb);clear hb hbox hg)|((with_reducible refine zJ (N:=3) rfl ?_);refine zH ?hg (N:=3) ?hd (cs:=#[.string a1_0,.slice A1_1 l1_1.length c1_1,.slice A1_2 l1_2.length c1_2]) (t:=25) ?hr ?_;(case hd => rfl);(case hg => rfl);(case hr => first|(go_simp;done)|(go_simp;rfl));intro gb156 hg w9 hbox hb;have BK156:=zh (hbox);have GW156:=zh ((by rw [hg];exact (zB (by repeat (with_reducible first|exact HB.out|apply za|apply zb|apply zc|refine zd ?_ GE155.out))) : w.heap.size≤gb156));have GE156:=zh ((by rw [hg];exact (zB (by repeat (with_reducible first|exact HB.out|apply za|apply zb|apply zc|refine zd ?_ GE155.out))) : w.heap.size≤gb156));replace HB:=zh (zC (by repeat (with_reducible first|exact HB.out|apply za|apply zb|apply zc|refine zd ?_ GE155.out)) hb);have NB155_156:=zh ((by rw [hg];exact ya (yf (g:=gb155) (o:=.cells #[.string a0_0,.slice A0_1 l0_1.length c0_1,.slice A0_2 l0_2.length c0_2] 25 (0,0)) (by (with_reducible repeat (first|refine ze ?_ _|refine zf ?_|refine zg ?_ _));exact BK155.out)) : gb155≠gb156));have NB156_155:=zh ((by rw [hg];exact yb (yf (g:=gb155) (o:=.cells #[.string a0_0,.slice A0_1 l0_1.length c0_1,.slice A0_2 l0_2.length c0_2] 25 (0,0)) (by (with_reducible repeat (first|refine ze ?_ _|refine zf ?_|refine zg ?_ _));exact BK155.out)) : gb156≠gb155));replace BK155:=zh (zD (g:=gb155) (o:=.cells #[.string a0_0,.slice A0_1 l0_1.length c0_1,.slice A0_2 l0_2.length c0_2] 25 (0,0)) (by (with_reducible repeat (first|refine ze ?_ _|refine zf ?_|refine zg ?_ _));exact BK155.out) hb);clear hb hbox hg;have hnb10:=NB155_156.out;have hnc10:=NB156_155.out;have hcz11_0 : w9.cell? ⟨gb155,0,none⟩=some (.string a0_0):=(zz BK155.out 0).trans rfl;have hcz11_1 : w9.cell? ⟨gb155,1,none⟩=some (.slice A0_1 l0_1.length c0_1):=(zz BK155.out 1).trans rfl;have hcz11_2 : w9.cell? ⟨gb155,2,none⟩=some (.slice A0_2 l0_2.length c0_2):=(zz BK155.out 2).trans rfl;have hfz11_0:=zA BK155.out 0;have hfz11_1:=zA BK155.out 1;have hfz11_2:=zA BK155.out 2;have hcz12_0 : w9.cell? ⟨gb156,0,none⟩=some (.string a1_0):=(zz BK156.out 0).trans rfl;have hcz12_1 : w9.cell? ⟨gb156,1,none⟩=some (.slice A1_1 l1_1.length c1_1):=(zz BK156.out 1).trans rfl;have hcz12_2 : w9.cell? ⟨gb156,2,none⟩=some (.slice A1_2 l1_2.length c1_2):=(zz BK156.out 2).trans rfl;have hfz12_0:=zA BK156.out 0;have hfz12_1:=zA BK156.out 1;have hfz12_2:=zA BK156.out 2)|((with_reducible refine zI (f:=13) rfl ?_);refine yg (some 14) rfl rfl Try.func13 (by kernel_rfl) rfl #[.slice A0_1 l0_1.length c0_1,.slice A1_1 l1_1.length c1_1] rfl (by (try simp only [zt,zu,zv]);first|done|rfl|(simp only [zw,zx];rfl)|(simp only [yo,yp,zT,zU];rfl)) ?_;(with_reducible refine (laws_eqChainS.calls k  _ _ l0_1 _ _ l1_1 true _ ?side1 ?side2 ?side3 ?side4 A4.out).mono ?_);(case side1 => repeat (first|exact (Kd.C_below HR0_1.out HB.out)|(with_reducible refine Kd.C_alloc ?_ _)|(with_reducible refine Kd.C_drewN ?_ _)|(with_reducible refine Kd.C_drew ?_)));(case side2 => exact HC0_1.out);(case side3 => repeat (first|exact (Kd.C_below HR1_1.out HB.out)|(with_reducible refine Kd.C_alloc ?_ _)|(with_reducible refine Kd.C_drewN ?_ _)|(with_reducible refine Kd.C_drew ?_)));(case side4 => exact HC1_1.out);rintro e w13 ⟨rfl,hb⟩;refine ⟨_,rfl,?_⟩;replace BK155:=zh (zD (g:=gb155) (o:=.cells #[.string a0_0,.slice A0_1 l0_1.length c0_1,.slice A0_2 l0_2.length c0_2] 25 (0,0)) (by (with_reducible repeat (first|refine ze ?_ _|refine zf ?_|refine zg ?_ _));exact BK155.out) hb);replace BK156:=zh (zD (g:=gb156) (o:=.cells #[.string a1_0,.slice A1_1 l1_1.length c1_1,.slice A1_2 l1_2.length c1_2] 25 (0,0)) (by (with_reducible repeat (first|refine ze ?_ _|refine zf ?_|refine zg ?_ _));exact BK156.out) hb);replace HB:=zh (zC (by repeat (with_reducible first|exact HB.out|apply za|apply zb|apply zc|refine zd ?_ GE155.out|refine zd ?_ GE156.out)) hb);(try clear hb);(try clear hb2);(try clear hk);(try clear hi);have hcz14_0 : w13.cell? ⟨gb155,0,none⟩=some (.string a0_0):=(zz BK155.out 0).trans rfl;have hcz14_1 : w13.cell? ⟨gb155,1,none⟩=some (.slice A0_1 l0_1.length c0_1):=(zz BK155.out 1).trans rfl;have hcz14_2 : w13.cell? ⟨gb155,2,none⟩=some (.slice A0_2 l0_2.length c0_2):=(zz BK155.out 2).trans rfl;have hfz14_0:=zA BK155.out 0;have hfz14_1:=zA BK155.out 1;have hfz14_2:=zA BK155.out 2;have hcz15_0 : w13.cell? ⟨gb156,0,none⟩=some (.string a1_0):=(zz BK156.out 0).trans rfl;have hcz15_1 : w13.cell? ⟨gb156,1,none⟩=some (.slice A1_1 l1_1.length c1_1):=(zz BK156.out 1).trans rfl;have hcz15_2 : w13.cell? ⟨gb156,2,none⟩=some (.slice A1_2 l1_2.length c1_2):=(zz BK156.out 2).trans rfl;have hfz15_0:=zA BK156.out 0;have hfz15_1:=zA BK156.out 1;have hfz15_2:=zA BK156.out 2)|((with_reducible refine zI (f:=14) rfl ?_);refine yg (some 20) rfl rfl Try.func14 (by kernel_rfl) rfl #[.slice A0_2 l0_2.length c0_2,.slice A1_2 l1_2.length c1_2] rfl (by (try simp only [zt,zu,zv]);first|done|rfl|(simp only [zw,zx];rfl)|(simp only [yo,yp,zT,zU];rfl)) ?_;(with_reducible refine (laws_eqDefS.calls k  _ _ l0_2 _ _ l1_2 true _ ?side1 ?side2 ?side3 ?side4 A6.out).mono ?_);(case side1 => repeat (first|exact (Kd.C_below HR0_2.out HB.out)|(with_reducible refine Kd.C_alloc ?_ _)|(with_reducible refine Kd.C_drewN ?_ _)|(with_reducible refine Kd.C_drew ?_)));(case side2 => exact HC0_2.out);(case side3 => repeat (first|exact (Kd.C_below HR1_2.out HB.out)|(with_reducible refine Kd.C_alloc ?_ _)|(with_reducible refine Kd.C_drewN ?_ _)|(with_reducible refine Kd.C_drew ?_)));(case side4 => exact HC1_2.out);rintro e w16 ⟨rfl,hb⟩;refine ⟨_,rfl,?_⟩;replace BK155:=zh (zD (g:=gb155) (o:=.cells #[.string a0_0,.slice A0_1 l0_1.length c0_1,.slice A0_2 l0_2.length c0_2] 25 (0,0)) (by (with_reducible repeat (first|refine ze ?_ _|refine zf ?_|refine zg ?_ _));exact BK155.out) hb);replace BK156:=zh (zD (g:=gb156) (o:=.cells #[.string a1_0,.slice A1_1 l1_1.length c1_1,.slice A1_2 l1_2.length c1_2] 25 (0,0)) (by (with_reducible repeat (first|refine ze ?_ _|refine zf ?_|refine zg ?_ _));exact BK156.out) hb);replace HB:=zh (zC (by repeat (with_reducible first|exact HB.out|apply za|apply zb|apply zc|refine zd ?_ GE155.out|refine zd ?_ GE156.out)) hb);(try clear hb);(try clear hb2);(try clear hk);(try clear hi)))
    go_ret
    exact ⟨by first|rfl|(simp [yq,yr] <;> rfl)|(simp [*,yq,yr] <;> rfl),by repeat (with_reducible first|exact HB.out|apply za|apply zb|apply zc|refine zd ?_ GE155.out|refine zd ?_ GE156.out)⟩
   replace c7:=zZ.mpr c7;subst c7;have H1 : (some false)=some r:=by rw [if_neg (show ¬ (false=true) by decide)] at H;exact H
   clear H;have H:=H1;clear H1;obtain rfl:=zS H
   go_enter Try.func6,Try.ntmps6
   go_wp2_with (first|((with_reducible refine zJ (N:=2) rfl ?_);refine zH ?hg (N:=2) ?hd (cs:=#[.string a0_0,.slice A0_1 l0_1.length c0_1,.slice A0_2 l0_2.length c0_2]) (t:=25) ?hr ?_;(case hd => rfl);(case hg => rfl);(case hr => first|(go_simp;done)|(go_simp;rfl));intro gb155 hg w17 hbox hb;have BK155:=zh (hbox);have GW155:=zh ((by rw [hg];exact (zB (by repeat (with_reducible first|exact HB.out|apply za|apply zb|apply zc))) : w.heap.size≤gb155));have GE155:=zh ((by rw [hg];exact (zB (by repeat (with_reducible first|exact HB.out|apply za|apply zb|apply zc))) : w.heap.size≤gb155));replace HB:=zh (zC (by repeat (with_reducible first|exact HB.out|apply za|apply zb|apply zc)) hb);clear hb hbox hg)|((with_reducible refine zJ (N:=3) rfl ?_);refine zH ?hg (N:=3) ?hd (cs:=#[.string a1_0,.slice A1_1 l1_1.length c1_1,.slice A1_2 l1_2.length c1_2]) (t:=25) ?hr ?_;(case hd => rfl);(case hg => rfl);(case hr => first|(go_simp;done)|(go_simp;rfl));intro gb156 hg w18 hbox hb;have BK156:=zh (hbox);have GW156:=zh ((by rw [hg];exact (zB (by repeat (with_reducible first|exact HB.out|apply za|apply zb|apply zc|refine zd ?_ GE155.out))) : w.heap.size≤gb156));have GE156:=zh ((by rw [hg];exact (zB (by repeat (with_reducible first|exact HB.out|apply za|apply zb|apply zc|refine zd ?_ GE155.out))) : w.heap.size≤gb156));replace HB:=zh (zC (by repeat (with_reducible first|exact HB.out|apply za|apply zb|apply zc|refine zd ?_ GE155.out)) hb);have NB155_156:=zh ((by rw [hg];exact ya (yf (g:=gb155) (o:=.cells #[.string a0_0,.slice A0_1 l0_1.length c0_1,.slice A0_2 l0_2.length c0_2] 25 (0,0)) (by (with_reducible repeat (first|refine ze ?_ _|refine zf ?_|refine zg ?_ _));exact BK155.out)) : gb155≠gb156));have NB156_155:=zh ((by rw [hg];exact yb (yf (g:=gb155) (o:=.cells #[.string a0_0,.slice A0_1 l0_1.length c0_1,.slice A0_2 l0_2.length c0_2] 25 (0,0)) (by (with_reducible repeat (first|refine ze ?_ _|refine zf ?_|refine zg ?_ _));exact BK155.out)) : gb156≠gb155));replace BK155:=zh (zD (g:=gb155) (o:=.cells #[.string a0_0,.slice A0_1 l0_1.length c0_1,.slice A0_2 l0_2.length c0_2] 25 (0,0)) (by (with_reducible repeat (first|refine ze ?_ _|refine zf ?_|refine zg ?_ _));exact BK155.out) hb);clear hb hbox hg;have hnb19:=NB155_156.out;have hnc19:=NB156_155.out;have hcz20_0 : w18.cell? ⟨gb155,0,none⟩=some (.string a0_0):=(zz BK155.out 0).trans rfl;have hcz20_1 : w18.cell? ⟨gb155,1,none⟩=some (.slice A0_1 l0_1.length c0_1):=(zz BK155.out 1).trans rfl;have hcz20_2 : w18.cell? ⟨gb155,2,none⟩=some (.slice A0_2 l0_2.length c0_2):=(zz BK155.out 2).trans rfl;have hfz20_0:=zA BK155.out 0;have hfz20_1:=zA BK155.out 1;have hfz20_2:=zA BK155.out 2;have hcz21_0 : w18.cell? ⟨gb156,0,none⟩=some (.string a1_0):=(zz BK156.out 0).trans rfl;have hcz21_1 : w18.cell? ⟨gb156,1,none⟩=some (.slice A1_1 l1_1.length c1_1):=(zz BK156.out 1).trans rfl;have hcz21_2 : w18.cell? ⟨gb156,2,none⟩=some (.slice A1_2 l1_2.length c1_2):=(zz BK156.out 2).trans rfl;have hfz21_0:=zA BK156.out 0;have hfz21_1:=zA BK156.out 1;have hfz21_2:=zA BK156.out 2)|((with_reducible refine zI (f:=13) rfl ?_);refine yg (some 14) rfl rfl Try.func13 (by kernel_rfl) rfl #[.slice A0_1 l0_1.length c0_1,.slice A1_1 l1_1.length c1_1] rfl (by (try simp only [zt,zu,zv]);first|done|rfl|(simp only [zw,zx];rfl)|(simp only [yo,yp,zT,zU];rfl)) ?_;(with_reducible refine (laws_eqChainS.calls k  _ _ l0_1 _ _ l1_1 true _ ?side1 ?side2 ?side3 ?side4 A4.out).mono ?_);(case side1 => repeat (first|exact (Kd.C_below HR0_1.out HB.out)|(with_reducible refine Kd.C_alloc ?_ _)|(with_reducible refine Kd.C_drewN ?_ _)|(with_reducible refine Kd.C_drew ?_)));(case side2 => exact HC0_1.out);(case side3 => repeat (first|exact (Kd.C_below HR1_1.out HB.out)|(with_reducible refine Kd.C_alloc ?_ _)|(with_reducible refine Kd.C_drewN ?_ _)|(with_reducible refine Kd.C_drew ?_)));(case side4 => exact HC1_1.out);rintro e w22 ⟨rfl,hb⟩;refine ⟨_,rfl,?_⟩;replace BK155:=zh (zD (g:=gb155) (o:=.cells #[.string a0_0,.slice A0_1 l0_1.length c0_1,.slice A0_2 l0_2.length c0_2] 25 (0,0)) (by (with_reducible repeat (first|refine ze ?_ _|refine zf ?_|refine zg ?_ _));exact BK155.out) hb);replace BK156:=zh (zD (g:=gb156) (o:=.cells #[.string a1_0,.slice A1_1 l1_1.length c1_1,.slice A1_2 l1_2.length c1_2] 25 (0,0)) (by (with_reducible repeat (first|refine ze ?_ _|refine zf ?_|refine zg ?_ _));exact BK156.out) hb);replace HB:=zh (zC (by repeat (with_reducible first|exact HB.out|apply za|apply zb|apply zc|refine zd ?_ GE155.out|refine zd ?_ GE156.out)) hb);(try clear hb);(try clear hb2);(try clear hk);(try clear hi);have hcz23_0 : w22.cell? ⟨gb155,0,none⟩=some (.string a0_0):=(zz BK155.out 0).trans rfl;have hcz23_1 : w22.cell? ⟨gb155,1,none⟩=some (.slice A0_1 l0_1.length c0_1):=(zz BK155.out 1).trans rfl;have hcz23_2 : w22.cell? ⟨gb155,2,none⟩=some (.slice A0_2 l0_2.length c0_2):=(zz BK155.out 2).trans rfl;have hfz23_0:=zA BK155.out 0;have hfz23_1:=zA BK155.out 1;have hfz23_2:=zA BK155.out 2;have hcz24_0 : w22.cell? ⟨gb156,0,none⟩=some (.string a1_0):=(zz BK156.out 0).trans rfl;have hcz24_1 : w22.cell? ⟨gb156,1,none⟩=some (.slice A1_1 l1_1.length c1_1):=(zz BK156.out 1).trans rfl;have hcz24_2 : w22.cell? ⟨gb156,2,none⟩=some (.slice A1_2 l1_2.length c1_2):=(zz BK156.out 2).trans rfl;have hfz24_0:=zA BK156.out 0;have hfz24_1:=zA BK156.out 1;have hfz24_2:=zA BK156.out 2)|((with_reducible refine zI (f:=14) rfl ?_);refine yg (some 20) rfl rfl Try.func14 (by kernel_rfl) rfl #[.slice A0_2 l0_2.length c0_2,.slice A1_2 l1_2.length c1_2] rfl (by (try simp only [zt,zu,zv]);first|done|rfl|(simp only [zw,zx];rfl)|(simp only [yo,yp,zT,zU];rfl)) ?_;(with_reducible refine (laws_eqDefS.calls k  _ _ l0_2 _ _ l1_2 false _ ?side1 ?side2 ?side3 ?side4 A6.out).mono ?_);(case side1 => repeat (first|exact (Kd.C_below HR0_2.out HB.out)|(with_reducible refine Kd.C_alloc ?_ _)|(with_reducible refine Kd.C_drewN ?_ _)|(with_reducible refine Kd.C_drew ?_)));(case side2 => exact HC0_2.out);(case side3 => repeat (first|exact (Kd.C_below HR1_2.out HB.out)|(with_reducible refine Kd.C_alloc ?_ _)|(with_reducible refine Kd.C_drewN ?_ _)|(with_reducible refine Kd.C_drew ?_)));(case side4 => exact HC1_2.out);rintro e w25 ⟨rfl,hb⟩;refine ⟨_,rfl,?_⟩;replace BK155:=zh (zD (g:=gb155) (o:=.cells #[.string a0_0,.slice A0_1 l0_1.length c0_1,.slice A0_2 l0_2.length c0_2] 25 (0,0)) (by (with_reducible repeat (first|refine ze ?_ _|refine zf ?_|refine zg ?_ _));exact BK155.out) hb);replace BK156:=zh (zD (g:=gb156) (o:=.cells #[.string a1_0,.slice A1_1 l1_1.length c1_1,.slice A1_2 l1_2.length c1_2] 25 (0,0)) (by (with_reducible repeat (first|refine ze ?_ _|refine zf ?_|refine zg ?_ _));exact BK156.out) hb);replace HB:=zh (zC (by repeat (with_reducible first|exact HB.out|apply za|apply zb|apply zc|refine zd ?_ GE155.out|refine zd ?_ GE156.out)) hb);(try clear hb);(try clear hb2);(try clear hk);(try clear hi)))
   go_ret
   exact ⟨by first|rfl|(simp [yq,yr] <;> rfl)|(simp [*,yq,yr] <;> rfl),by repeat (with_reducible first|exact HB.out|apply za|apply zb|apply zc|refine zd ?_ GE155.out|refine zd ?_ GE156.out)⟩
  replace c5:=zZ.mpr c5;subst c5;have H1 : (some false)=some r:=by rw [if_neg (show ¬ (false=true) by decide)] at H;exact H
  clear H;have H:=H1;clear H1;obtain rfl:=zS H
  go_enter Try.func6,Try.ntmps6
  go_wp2_with (first|((with_reducible refine zJ (N:=2) rfl ?_);refine zH ?hg (N:=2) ?hd (cs:=#[.string a0_0,.slice A0_1 l0_1.length c0_1,.slice A0_2 l0_2.length c0_2]) (t:=25) ?hr ?_;(case hd => rfl);(case hg => rfl);(case hr => first|(go_simp;done)|(go_simp;rfl));intro gb155 hg w26 hbox hb;have BK155:=zh (hbox);have GW155:=zh ((by rw [hg];exact (zB (by repeat (with_reducible first|exact HB.out|apply za|apply zb|apply zc))) : w.heap.size≤gb155));have GE155:=zh ((by rw [hg];exact (zB (by repeat (with_reducible first|exact HB.out|apply za|apply zb|apply zc))) : w.heap.size≤gb155));replace HB:=zh (zC (by repeat (with_reducible first|exact HB.out|apply za|apply zb|apply zc)) hb);clear hb hbox hg)|((with_reducible refine zJ (N:=3) rfl ?_);refine zH ?hg (N:=3) ?hd (cs:=#[.string a1_0,.slice A1_1 l1_1.length c1_1,.slice A1_2 l1_2.length c1_2]) (t:=25) ?hr ?_;(case hd => rfl);(case hg => rfl);(case hr => first|(go_simp;done)|(go_simp;rfl));intro gb156 hg w27 hbox hb;have BK156:=zh (hbox);have GW156:=zh ((by rw [hg];exact (zB (by repeat (with_reducible first|exact HB.out|apply za|apply zb|apply zc|refine zd ?_ GE155.out))) : w.heap.size≤gb156));have GE156:=zh ((by rw [hg];exact (zB (by repeat (with_reducible first|exact HB.out|apply za|apply zb|apply zc|refine zd ?_ GE155.out))) : w.heap.size≤gb156));replace HB:=zh (zC (by repeat (with_reducible first|exact HB.out|apply za|apply zb|apply zc|refine zd ?_ GE155.out)) hb);have NB155_156:=zh ((by rw [hg];exact ya (yf (g:=gb155) (o:=.cells #[.string a0_0,.slice A0_1 l0_1.length c0_1,.slice A0_2 l0_2.length c0_2] 25 (0,0)) (by (with_reducible repeat (first|refine ze ?_ _|refine zf ?_|refine zg ?_ _));exact BK155.out)) : gb155≠gb156));have NB156_155:=zh ((by rw [hg];exact yb (yf (g:=gb155) (o:=.cells #[.string a0_0,.slice A0_1 l0_1.length c0_1,.slice A0_2 l0_2.length c0_2] 25 (0,0)) (by (with_reducible repeat (first|refine ze ?_ _|refine zf ?_|refine zg ?_ _));exact BK155.out)) : gb156≠gb155));replace BK155:=zh (zD (g:=gb155) (o:=.cells #[.string a0_0,.slice A0_1 l0_1.length c0_1,.slice A0_2 l0_2.length c0_2] 25 (0,0)) (by (with_reducible repeat (first|refine ze ?_ _|refine zf ?_|refine zg ?_ _));exact BK155.out) hb);clear hb hbox hg;have hnb28:=NB155_156.out;have hnc28:=NB156_155.out;have hcz29_0 : w27.cell? ⟨gb155,0,none⟩=some (.string a0_0):=(zz BK155.out 0).trans rfl;have hcz29_1 : w27.cell? ⟨gb155,1,none⟩=some (.slice A0_1 l0_1.length c0_1):=(zz BK155.out 1).trans rfl;have hcz29_2 : w27.cell? ⟨gb155,2,none⟩=some (.slice A0_2 l0_2.length c0_2):=(zz BK155.out 2).trans rfl;have hfz29_0:=zA BK155.out 0;have hfz29_1:=zA BK155.out 1;have hfz29_2:=zA BK155.out 2;have hcz30_0 : w27.cell? ⟨gb156,0,none⟩=some (.string a1_0):=(zz BK156.out 0).trans rfl;have hcz30_1 : w27.cell? ⟨gb156,1,none⟩=some (.slice A1_1 l1_1.length c1_1):=(zz BK156.out 1).trans rfl;have hcz30_2 : w27.cell? ⟨gb156,2,none⟩=some (.slice A1_2 l1_2.length c1_2):=(zz BK156.out 2).trans rfl;have hfz30_0:=zA BK156.out 0;have hfz30_1:=zA BK156.out 1;have hfz30_2:=zA BK156.out 2)|((with_reducible refine zI (f:=13) rfl ?_);refine yg (some 14) rfl rfl Try.func13 (by kernel_rfl) rfl #[.slice A0_1 l0_1.length c0_1,.slice A1_1 l1_1.length c1_1] rfl (by (try simp only [zt,zu,zv]);first|done|rfl|(simp only [zw,zx];rfl)|(simp only [yo,yp,zT,zU];rfl)) ?_;(with_reducible refine (laws_eqChainS.calls k  _ _ l0_1 _ _ l1_1 false _ ?side1 ?side2 ?side3 ?side4 A4.out).mono ?_);(case side1 => repeat (first|exact (Kd.C_below HR0_1.out HB.out)|(with_reducible refine Kd.C_alloc ?_ _)|(with_reducible refine Kd.C_drewN ?_ _)|(with_reducible refine Kd.C_drew ?_)));(case side2 => exact HC0_1.out);(case side3 => repeat (first|exact (Kd.C_below HR1_1.out HB.out)|(with_reducible refine Kd.C_alloc ?_ _)|(with_reducible refine Kd.C_drewN ?_ _)|(with_reducible refine Kd.C_drew ?_)));(case side4 => exact HC1_1.out);rintro e w31 ⟨rfl,hb⟩;refine ⟨_,rfl,?_⟩;replace BK155:=zh (zD (g:=gb155) (o:=.cells #[.string a0_0,.slice A0_1 l0_1.length c0_1,.slice A0_2 l0_2.length c0_2] 25 (0,0)) (by (with_reducible repeat (first|refine ze ?_ _|refine zf ?_|refine zg ?_ _));exact BK155.out) hb);replace BK156:=zh (zD (g:=gb156) (o:=.cells #[.string a1_0,.slice A1_1 l1_1.length c1_1,.slice A1_2 l1_2.length c1_2] 25 (0,0)) (by (with_reducible repeat (first|refine ze ?_ _|refine zf ?_|refine zg ?_ _));exact BK156.out) hb);replace HB:=zh (zC (by repeat (with_reducible first|exact HB.out|apply za|apply zb|apply zc|refine zd ?_ GE155.out|refine zd ?_ GE156.out)) hb);(try clear hb);(try clear hb2);(try clear hk);(try clear hi)))
  go_ret
  exact ⟨by first|rfl|(simp [yq,yr] <;> rfl)|(simp [*,yq,yr] <;> rfl),by repeat (with_reducible first|exact HB.out|apply za|apply zb|apply zc|refine zd ?_ GE155.out|refine zd ?_ GE156.out)⟩
 rw [if_neg c3] at H;have c3b0 : (a0_0.toList == a1_0.toList)=false:=zW.mpr c3;have c3b1 : (a0_0.toList != a1_0.toList)=true:=zX.mpr c3;obtain rfl:=zS H
 go_enter Try.func6,Try.ntmps6
 go_wp2_with (first|((with_reducible refine zJ (N:=2) rfl ?_);refine zH ?hg (N:=2) ?hd (cs:=#[.string a0_0,.slice A0_1 l0_1.length c0_1,.slice A0_2 l0_2.length c0_2]) (t:=25) ?hr ?_;(case hd => rfl);(case hg => rfl);(case hr => first|(go_simp;done)|(go_simp;rfl));intro gb155 hg w32 hbox hb;have BK155:=zh (hbox);have GW155:=zh ((by rw [hg];exact (zB (by repeat (with_reducible first|exact HB.out|apply za|apply zb|apply zc))) : w.heap.size≤gb155));have GE155:=zh ((by rw [hg];exact (zB (by repeat (with_reducible first|exact HB.out|apply za|apply zb|apply zc))) : w.heap.size≤gb155));replace HB:=zh (zC (by repeat (with_reducible first|exact HB.out|apply za|apply zb|apply zc)) hb);clear hb hbox hg)|((with_reducible refine zJ (N:=3) rfl ?_);refine zH ?hg (N:=3) ?hd (cs:=#[.string a1_0,.slice A1_1 l1_1.length c1_1,.slice A1_2 l1_2.length c1_2]) (t:=25) ?hr ?_;(case hd => rfl);(case hg => rfl);(case hr => first|(go_simp;done)|(go_simp;rfl));intro gb156 hg w33 hbox hb;have BK156:=zh (hbox);have GW156:=zh ((by rw [hg];exact (zB (by repeat (with_reducible first|exact HB.out|apply za|apply zb|apply zc|refine zd ?_ GE155.out))) : w.heap.size≤gb156));have GE156:=zh ((by rw [hg];exact (zB (by repeat (with_reducible first|exact HB.out|apply za|apply zb|apply zc|refine zd ?_ GE155.out))) : w.heap.size≤gb156));replace HB:=zh (zC (by repeat (with_reducible first|exact HB.out|apply za|apply zb|apply zc|refine zd ?_ GE155.out)) hb);have NB155_156:=zh ((by rw [hg];exact ya (yf (g:=gb155) (o:=.cells #[.string a0_0,.slice A0_1 l0_1.length c0_1,.slice A0_2 l0_2.length c0_2] 25 (0,0)) (by (with_reducible repeat (first|refine ze ?_ _|refine zf ?_|refine zg ?_ _));exact BK155.out)) : gb155≠gb156));have NB156_155:=zh ((by rw [hg];exact yb (yf (g:=gb155) (o:=.cells #[.string a0_0,.slice A0_1 l0_1.length c0_1,.slice A0_2 l0_2.length c0_2] 25 (0,0)) (by (with_reducible repeat (first|refine ze ?_ _|refine zf ?_|refine zg ?_ _));exact BK155.out)) : gb156≠gb155));replace BK155:=zh (zD (g:=gb155) (o:=.cells #[.string a0_0,.slice A0_1 l0_1.length c0_1,.slice A0_2 l0_2.length c0_2] 25 (0,0)) (by (with_reducible repeat (first|refine ze ?_ _|refine zf ?_|refine zg ?_ _));exact BK155.out) hb);clear hb hbox hg;have hnb34:=NB155_156.out;have hnc34:=NB156_155.out;have hcz35_0 : w33.cell? ⟨gb155,0,none⟩=some (.string a0_0):=(zz BK155.out 0).trans rfl;have hcz35_1 : w33.cell? ⟨gb155,1,none⟩=some (.slice A0_1 l0_1.length c0_1):=(zz BK155.out 1).trans rfl;have hcz35_2 : w33.cell? ⟨gb155,2,none⟩=some (.slice A0_2 l0_2.length c0_2):=(zz BK155.out 2).trans rfl;have hfz35_0:=zA BK155.out 0;have hfz35_1:=zA BK155.out 1;have hfz35_2:=zA BK155.out 2;have hcz36_0 : w33.cell? ⟨gb156,0,none⟩=some (.string a1_0):=(zz BK156.out 0).trans rfl;have hcz36_1 : w33.cell? ⟨gb156,1,none⟩=some (.slice A1_1 l1_1.length c1_1):=(zz BK156.out 1).trans rfl;have hcz36_2 : w33.cell? ⟨gb156,2,none⟩=some (.slice A1_2 l1_2.length c1_2):=(zz BK156.out 2).trans rfl;have hfz36_0:=zA BK156.out 0;have hfz36_1:=zA BK156.out 1;have hfz36_2:=zA BK156.out 2))
 go_ret
 exact ⟨by first|rfl|(simp [yq,yr] <;> rfl)|(simp [*,yq,yr] <;> rfl),by repeat (with_reducible first|exact HB.out|apply za|apply zb|apply zc|refine zd ?_ GE155.out|refine zd ?_ GE156.out)⟩

end Go.Proofs.Ytncpldpddbjdgaa.Q
end
section
namespace Go.Proofs.Ytncpldpddbjdgaa.Q
open Go.RowKit Go.Proofs.YtncpldpddbjdgaaW.PrintWords Go.Proofs.YtncpldpddbjdgaaW.PrintLast Go.Proofs.YtncpldpddbjdgaaW.PrintMore
attribute [local go_sem] max2_int min2_int max_two min_two max_three min_three max_four min_four max2_str min2_str str_geq str_gtr str_leq   -- for this text's walks alone
set_option linter.unusedVariables false
set_option linter.unusedSimpArgs false

def laws_markChainS.l0 : Nat→List (S42)→Int→Int→Option (Int)
 | 0,_,_,_ => none
 | k + 1,x0,x1,x5 => if x5<(x0.length : Int) then (none) else (some x1)
def laws_markChainS.f (k : Nat) (l0 : List (S42)) (a1 : Int) : Option (Int):=laws_markChainS.l0 k l0 a1 0
theorem laws_markChainS.mono_l : ∀ k,(∀ y0 y1 y2,LeO (laws_markChainS.l0 k y0 y1 y2) (laws_markChainS.l0 (k + 1) y0 y1 y2))
 | 0 => fun _ _ _ r h => by simp [laws_markChainS.l0] at h
 | k + 1 => by
  have ih0:=laws_markChainS.mono_l k;intro y0 y1 y2;unfold laws_markChainS.l0
  repeat' first|(with_reducible exact ih0 _ _ _)|(with_reducible exact zO _)|(with_reducible exact zL _)|(with_reducible refine zN ?_ ?_)|(with_reducible refine zM ?_ (fun _ => ?_))|refine zN ?_ ?_|refine zM ?_ (fun _ => ?_)
theorem laws_markChainS.mono : ∀ a0 a1 k,LeO (laws_markChainS.f k a0 a1) (laws_markChainS.f (k + 1) a0 a1):=by
 intro a0 a1 k;have ih0:=laws_markChainS.mono_l k;unfold laws_markChainS.f
 repeat' first|(with_reducible exact ih0 _ _ _)|(with_reducible exact zO _)|(with_reducible exact zL _)|(with_reducible refine zN ?_ ?_)|(with_reducible refine zM ?_ (fun _ => ?_))|refine zN ?_ ?_|refine zM ?_ (fun _ => ?_)
set_option maxHeartbeats 8000000 in
set_option maxRecDepth 100000 in
theorem laws_markChainS.calls (k : Nat) (A0 : Option Addr) (c0 : Nat) (l0 : List (S42)) (a1 : Int) (r : Int) (w : World) (hr0 : Kd.C k42 w A0 l0.length l0) (hc0 : l0.length≤c0) (h : laws_markChainS.f k l0 a1=some r) :
  Calls Try.prog 15 #[.slice A0 l0.length c0,.int .i64 a1] w fun e w' => e = .returned (.int .i64 r)∧Below w.heap.size w w':=by
 have HR0:=zh hr0;have HC0:=zh hc0;clear hr0 hc0;have HB:=zh (Below.refl w.heap.size w);have H : (laws_markChainS.l0 k l0 a1 0)=some r:=h;clear h;have H':=zh H;clear H
 go_enter Try.func15,Try.ntmps15
 go_wp2
 go_loopg [1,5] k (fun kq v1 v5 w' => ∃ (x1_1 : Int) (x5_1 : Int),v1 = .int .i64 x1_1∧v5 = .int .i64 x5_1∧Aside0 (laws_markChainS.l0 kq l0 x1_1 x5_1=some r)∧Aside0 (kq≤k)∧Aside0 (Below w.heap.size w w'))
 case atStart => exact ⟨(a1),(0),(by first|rfl|(simp;done)|(simp [*];done)),(by first|rfl|(simp;done)|(simp [*];done)),H',⟨yc _⟩,⟨by repeat (with_reducible first|exact HB.out|apply za|apply zb|apply zc)⟩⟩
 case round =>
  clear H'
  try clear c1
  try clear p2
  obtain ⟨x1_1,x5_1,rfl,rfl,HA,HK1,HB⟩:=hrel
  cases gk with
  | zero => exact absurd HA.out (by simp [laws_markChainS.l0])
  | succ k1 =>
   have H:=HA.out;clear HA;simp only [laws_markChainS.l0] at H
   by_cases c3 : x5_1<(l0.length : Int)
   ·
    rw [if_pos c3] at H
    exact absurd H (by simp)
   rw [if_neg c3] at H;have c3b0 : decide (x5_1<(l0.length : Int))=false:=decide_eq_false c3;clear c3;obtain rfl:=zS H
   go_wp2
   go_ret
   exact ⟨by first|rfl|(simp [yq,yr] <;> rfl)|(simp [*,yq,yr] <;> rfl),by repeat (with_reducible first|exact HB.out|apply za|apply zb|apply zc)⟩

end Go.Proofs.Ytncpldpddbjdgaa.Q
end
section
namespace Go.Proofs.Ytncpldpddbjdgaa.Q
open Go.RowKit Go.Proofs.YtncpldpddbjdgaaW.PrintWords Go.Proofs.YtncpldpddbjdgaaW.PrintLast Go.Proofs.YtncpldpddbjdgaaW.PrintMore
attribute [local go_sem] max2_int min2_int max_two min_two max_three min_three max_four min_four max2_str min2_str str_geq str_gtr str_leq   -- for this text's walks alone
set_option linter.unusedVariables false
set_option linter.unusedSimpArgs false

def laws_markDefS.l0 : Nat→List (S46)→Int→Int→Option (Int)
 | 0,_,_,_ => none
 | k + 1,x0,x1,x5 => if x5<(x0.length : Int) then (none) else (some x1)
def laws_markDefS.f (k : Nat) (l0 : List (S46)) (a1 : Int) : Option (Int):=laws_markDefS.l0 k l0 a1 0
theorem laws_markDefS.mono_l : ∀ k,(∀ y0 y1 y2,LeO (laws_markDefS.l0 k y0 y1 y2) (laws_markDefS.l0 (k + 1) y0 y1 y2))
 | 0 => fun _ _ _ r h => by simp [laws_markDefS.l0] at h
 | k + 1 => by
  have ih0:=laws_markDefS.mono_l k;intro y0 y1 y2;unfold laws_markDefS.l0
  repeat' first|(with_reducible exact ih0 _ _ _)|(with_reducible exact zO _)|(with_reducible exact zL _)|(with_reducible refine zN ?_ ?_)|(with_reducible refine zM ?_ (fun _ => ?_))|refine zN ?_ ?_|refine zM ?_ (fun _ => ?_)
theorem laws_markDefS.mono : ∀ a0 a1 k,LeO (laws_markDefS.f k a0 a1) (laws_markDefS.f (k + 1) a0 a1):=by
 intro a0 a1 k;have ih0:=laws_markDefS.mono_l k;unfold laws_markDefS.f
 repeat' first|(with_reducible exact ih0 _ _ _)|(with_reducible exact zO _)|(with_reducible exact zL _)|(with_reducible refine zN ?_ ?_)|(with_reducible refine zM ?_ (fun _ => ?_))|refine zN ?_ ?_|refine zM ?_ (fun _ => ?_)
set_option maxHeartbeats 8000000 in
set_option maxRecDepth 100000 in
theorem laws_markDefS.calls (k : Nat) (A0 : Option Addr) (c0 : Nat) (l0 : List (S46)) (a1 : Int) (r : Int) (w : World) (hr0 : Kd.C k46 w A0 l0.length l0) (hc0 : l0.length≤c0) (h : laws_markDefS.f k l0 a1=some r) :
  Calls Try.prog 16 #[.slice A0 l0.length c0,.int .i64 a1] w fun e w' => e = .returned (.int .i64 r)∧Below w.heap.size w w':=by
 have HR0:=zh hr0;have HC0:=zh hc0;clear hr0 hc0;have HB:=zh (Below.refl w.heap.size w);have H : (laws_markDefS.l0 k l0 a1 0)=some r:=h;clear h;have H':=zh H;clear H
 go_enter Try.func16,Try.ntmps16
 go_wp2
 go_loopg [1,5] k (fun kq v1 v5 w' => ∃ (x1_1 : Int) (x5_1 : Int),v1 = .int .i64 x1_1∧v5 = .int .i64 x5_1∧Aside0 (laws_markDefS.l0 kq l0 x1_1 x5_1=some r)∧Aside0 (kq≤k)∧Aside0 (Below w.heap.size w w'))
 case atStart => exact ⟨(a1),(0),(by first|rfl|(simp;done)|(simp [*];done)),(by first|rfl|(simp;done)|(simp [*];done)),H',⟨yc _⟩,⟨by repeat (with_reducible first|exact HB.out|apply za|apply zb|apply zc)⟩⟩
 case round =>
  clear H'
  try clear c1
  try clear p2
  obtain ⟨x1_1,x5_1,rfl,rfl,HA,HK1,HB⟩:=hrel
  cases gk with
  | zero => exact absurd HA.out (by simp [laws_markDefS.l0])
  | succ k1 =>
   have H:=HA.out;clear HA;simp only [laws_markDefS.l0] at H
   by_cases c3 : x5_1<(l0.length : Int)
   ·
    rw [if_pos c3] at H
    exact absurd H (by simp)
   rw [if_neg c3] at H;have c3b0 : decide (x5_1<(l0.length : Int))=false:=decide_eq_false c3;clear c3;obtain rfl:=zS H
   go_wp2
   go_ret
   exact ⟨by first|rfl|(simp [yq,yr] <;> rfl)|(simp [*,yq,yr] <;> rfl),by repeat (with_reducible first|exact HB.out|apply za|apply zb|apply zc)⟩

end Go.Proofs.Ytncpldpddbjdgaa.Q
end
section
namespace Go.Proofs.Ytncpldpddbjdgaa.Q
open Go.RowKit Go.Proofs.YtncpldpddbjdgaaW.PrintWords Go.Proofs.YtncpldpddbjdgaaW.PrintLast Go.Proofs.YtncpldpddbjdgaaW.PrintMore
attribute [local go_sem] max2_int min2_int max_two min_two max_three min_three max_four min_four max2_str min2_str str_geq str_gtr str_leq   -- for this text's walks alone
set_option linter.unusedVariables false
set_option linter.unusedSimpArgs false

def laws_markColl.f (k : Nat) (a0_0 : ByteArray) (l0_1 : List (S42)) (l0_2 : List (S46)) (a1 : Int) : Option (Int):=(laws_markChainS.f k l0_1 a1).bind fun t172 => ((laws_markDefS.f k l0_2 t172).bind fun t173 => (some t173))
theorem laws_markColl.mono : ∀ a0 a1 a2 a3 k,LeO (laws_markColl.f k a0 a1 a2 a3) (laws_markColl.f (k + 1) a0 a1 a2 a3):=by
 intro a0 a1 a2 a3 k;unfold laws_markColl.f
 repeat' first|(with_reducible exact laws_markChainS.mono _ _ _)|(with_reducible exact laws_markDefS.mono _ _ _)|(with_reducible exact zO _)|(with_reducible exact zL _)|(with_reducible refine zN ?_ ?_)|(with_reducible refine zM ?_ (fun _ => ?_))|refine zN ?_ ?_|refine zM ?_ (fun _ => ?_)
set_option maxHeartbeats 8000000 in
set_option maxRecDepth 100000 in
theorem laws_markColl.calls (k : Nat) (a0_0 : ByteArray) (A0_1 : Option Addr) (c0_1 : Nat) (l0_1 : List (S42)) (A0_2 : Option Addr) (c0_2 : Nat) (l0_2 : List (S46)) (a1 : Int) (r : Int) (w : World) (hr0_1 : Kd.C k42 w A0_1 l0_1.length l0_1) (hc0_1 : l0_1.length≤c0_1) (hr0_2 : Kd.C k46 w A0_2 l0_2.length l0_2) (hc0_2 : l0_2.length≤c0_2) (h : laws_markColl.f k a0_0 l0_1 l0_2 a1=some r) :
  Calls Try.prog 7 #[.agg #[.string a0_0,.slice A0_1 l0_1.length c0_1,.slice A0_2 l0_2.length c0_2],.int .i64 a1] w fun e w' => e = .returned (.int .i64 r)∧Below w.heap.size w w':=by
 have hu25:=Try.underlying25;have HR0_1:=zh hr0_1;have HC0_1:=zh hc0_1;clear hr0_1 hc0_1;have HR0_2:=zh hr0_2;have HC0_2:=zh hc0_2;clear hr0_2 hc0_2;have HB:=zh (Below.refl w.heap.size w);have H : ((laws_markChainS.f k l0_1 a1).bind fun t172 => ((laws_markDefS.f k l0_2 t172).bind fun t173 => (some t173)))=some r:=h;clear h;replace H:=zR.mp H;obtain ⟨t172,A30,H⟩:=H;replace H : ((laws_markDefS.f k l0_2 t172).bind fun t173 => (some t173))=some r:=H;have A3:=zh A30;clear A30;replace H:=zR.mp H;obtain ⟨t173,A40,H⟩:=H;replace H : (some t173)=some r:=H;have A4:=zh A40;clear A40;obtain rfl:=zS H
 go_enter Try.func7,Try.ntmps7
 go_wp2_with (first|((with_reducible refine zJ (N:=2) rfl ?_);refine zH ?hg (N:=2) ?hd (cs:=#[.string a0_0,.slice A0_1 l0_1.length c0_1,.slice A0_2 l0_2.length c0_2]) (t:=25) ?hr ?_;(case hd => rfl);(case hg => rfl);(case hr => first|(go_simp;done)|(go_simp;rfl));intro gb171 hg w5 hbox hb;have BK171:=zh (hbox);have GW171:=zh ((by rw [hg];exact (zB (by repeat (with_reducible first|exact HB.out|apply za|apply zb|apply zc))) : w.heap.size≤gb171));have GE171:=zh ((by rw [hg];exact (zB (by repeat (with_reducible first|exact HB.out|apply za|apply zb|apply zc))) : w.heap.size≤gb171));replace HB:=zh (zC (by repeat (with_reducible first|exact HB.out|apply za|apply zb|apply zc)) hb);clear hb hbox hg;have hcz6_0 : w5.cell? ⟨gb171,0,none⟩=some (.string a0_0):=(zz BK171.out 0).trans rfl;have hcz6_1 : w5.cell? ⟨gb171,1,none⟩=some (.slice A0_1 l0_1.length c0_1):=(zz BK171.out 1).trans rfl;have hcz6_2 : w5.cell? ⟨gb171,2,none⟩=some (.slice A0_2 l0_2.length c0_2):=(zz BK171.out 2).trans rfl;have hfz6_0:=zA BK171.out 0;have hfz6_1:=zA BK171.out 1;have hfz6_2:=zA BK171.out 2)|((with_reducible refine zI (f:=15) rfl ?_);refine yg (some 8) rfl rfl Try.func15 (by kernel_rfl) rfl #[.slice A0_1 l0_1.length c0_1,.int .i64 a1] rfl (by (try simp only [zt,zu,zv]);first|done|rfl|(simp only [zw,zx];rfl)|(simp only [yo,yp,zT,zU];rfl)) ?_;(with_reducible refine (laws_markChainS.calls k  _ _ l0_1 a1 t172 _ ?side1 ?side2 A3.out).mono ?_);(case side1 => repeat (first|exact (Kd.C_below HR0_1.out HB.out)|(with_reducible refine Kd.C_alloc ?_ _)|(with_reducible refine Kd.C_drewN ?_ _)|(with_reducible refine Kd.C_drew ?_)));(case side2 => exact HC0_1.out);rintro e w7 ⟨rfl,hb⟩;refine ⟨_,rfl,?_⟩;replace BK171:=zh (zD (g:=gb171) (o:=.cells #[.string a0_0,.slice A0_1 l0_1.length c0_1,.slice A0_2 l0_2.length c0_2] 25 (0,0)) (by (with_reducible repeat (first|refine ze ?_ _|refine zf ?_|refine zg ?_ _));exact BK171.out) hb);replace HB:=zh (zC (by repeat (with_reducible first|exact HB.out|apply za|apply zb|apply zc|refine zd ?_ GE171.out)) hb);(try clear hb);(try clear hb2);(try clear hk);(try clear hi);have hcz8_0 : w7.cell? ⟨gb171,0,none⟩=some (.string a0_0):=(zz BK171.out 0).trans rfl;have hcz8_1 : w7.cell? ⟨gb171,1,none⟩=some (.slice A0_1 l0_1.length c0_1):=(zz BK171.out 1).trans rfl;have hcz8_2 : w7.cell? ⟨gb171,2,none⟩=some (.slice A0_2 l0_2.length c0_2):=(zz BK171.out 2).trans rfl;have hfz8_0:=zA BK171.out 0;have hfz8_1:=zA BK171.out 1;have hfz8_2:=zA BK171.out 2)|((with_reducible refine zI (f:=16) rfl ?_);refine yg (some 12) rfl rfl Try.func16 (by kernel_rfl) rfl #[.slice A0_2 l0_2.length c0_2,.int .i64 t172] rfl (by (try simp only [zt,zu,zv]);first|done|rfl|(simp only [zw,zx];rfl)|(simp only [yo,yp,zT,zU];rfl)) ?_;(with_reducible refine (laws_markDefS.calls k  _ _ l0_2 t172 t173 _ ?side1 ?side2 A4.out).mono ?_);(case side1 => repeat (first|exact (Kd.C_below HR0_2.out HB.out)|(with_reducible refine Kd.C_alloc ?_ _)|(with_reducible refine Kd.C_drewN ?_ _)|(with_reducible refine Kd.C_drew ?_)));(case side2 => exact HC0_2.out);rintro e w9 ⟨rfl,hb⟩;refine ⟨_,rfl,?_⟩;replace BK171:=zh (zD (g:=gb171) (o:=.cells #[.string a0_0,.slice A0_1 l0_1.length c0_1,.slice A0_2 l0_2.length c0_2] 25 (0,0)) (by (with_reducible repeat (first|refine ze ?_ _|refine zf ?_|refine zg ?_ _));exact BK171.out) hb);replace HB:=zh (zC (by repeat (with_reducible first|exact HB.out|apply za|apply zb|apply zc|refine zd ?_ GE171.out)) hb);(try clear hb);(try clear hb2);(try clear hk);(try clear hi)))
 go_ret
 exact ⟨by first|rfl|(simp [yq,yr] <;> rfl)|(simp [*,yq,yr] <;> rfl),by repeat (with_reducible first|exact HB.out|apply za|apply zb|apply zc|refine zd ?_ GE171.out)⟩

end Go.Proofs.Ytncpldpddbjdgaa.Q
end
section
namespace Go.Proofs.Ytncpldpddbjdgaa.Q
open Go.RowKit Go.Proofs.YtncpldpddbjdgaaW.PrintWords Go.Proofs.YtncpldpddbjdgaaW.PrintLast Go.Proofs.YtncpldpddbjdgaaW.PrintMore
attribute [local go_sem] max2_int min2_int max_two min_two max_three min_three max_four min_four max2_str min2_str str_geq str_gtr str_leq   -- for this text's walks alone
set_option linter.unusedVariables false
set_option linter.unusedSimpArgs false

def laws_heldChainS.l0 : Nat→List (S42)→Int→Int→Option (Int)
 | 0,_,_,_ => none
 | k + 1,x0,x1,x5 => if x5<(x0.length : Int) then (none) else (some x1)
def laws_heldChainS.f (k : Nat) (l0 : List (S42)) (a1 : Int) : Option (Int):=laws_heldChainS.l0 k l0 a1 0
theorem laws_heldChainS.mono_l : ∀ k,(∀ y0 y1 y2,LeO (laws_heldChainS.l0 k y0 y1 y2) (laws_heldChainS.l0 (k + 1) y0 y1 y2))
 | 0 => fun _ _ _ r h => by simp [laws_heldChainS.l0] at h
 | k + 1 => by
  have ih0:=laws_heldChainS.mono_l k;intro y0 y1 y2;unfold laws_heldChainS.l0
  repeat' first|(with_reducible exact ih0 _ _ _)|(with_reducible exact zO _)|(with_reducible exact zL _)|(with_reducible refine zN ?_ ?_)|(with_reducible refine zM ?_ (fun _ => ?_))|refine zN ?_ ?_|refine zM ?_ (fun _ => ?_)
theorem laws_heldChainS.mono : ∀ a0 a1 k,LeO (laws_heldChainS.f k a0 a1) (laws_heldChainS.f (k + 1) a0 a1):=by
 intro a0 a1 k;have ih0:=laws_heldChainS.mono_l k;unfold laws_heldChainS.f
 repeat' first|(with_reducible exact ih0 _ _ _)|(with_reducible exact zO _)|(with_reducible exact zL _)|(with_reducible refine zN ?_ ?_)|(with_reducible refine zM ?_ (fun _ => ?_))|refine zN ?_ ?_|refine zM ?_ (fun _ => ?_)
set_option maxHeartbeats 8000000 in
set_option maxRecDepth 100000 in
theorem laws_heldChainS.calls (k : Nat) (A0 : Option Addr) (c0 : Nat) (l0 : List (S42)) (a1 : Int) (r : Int) (w : World) (hr0 : Kd.C k42 w A0 l0.length l0) (hc0 : l0.length≤c0) (h : laws_heldChainS.f k l0 a1=some r) :
  Calls Try.prog 17 #[.slice A0 l0.length c0,.int .i64 a1] w fun e w' => e = .returned (.int .i64 r)∧Below w.heap.size w w':=by
 have HR0:=zh hr0;have HC0:=zh hc0;clear hr0 hc0;have HB:=zh (Below.refl w.heap.size w);have H : (laws_heldChainS.l0 k l0 a1 0)=some r:=h;clear h;have H':=zh H;clear H
 go_enter Try.func17,Try.ntmps17
 go_wp2
 go_loopg [1,5] k (fun kq v1 v5 w' => ∃ (x1_1 : Int) (x5_1 : Int),v1 = .int .i64 x1_1∧v5 = .int .i64 x5_1∧Aside0 (laws_heldChainS.l0 kq l0 x1_1 x5_1=some r)∧Aside0 (kq≤k)∧Aside0 (Below w.heap.size w w'))
 case atStart => exact ⟨(a1),(0),(by first|rfl|(simp;done)|(simp [*];done)),(by first|rfl|(simp;done)|(simp [*];done)),H',⟨yc _⟩,⟨by repeat (with_reducible first|exact HB.out|apply za|apply zb|apply zc)⟩⟩
 case round =>
  clear H'
  try clear c1
  try clear p2
  obtain ⟨x1_1,x5_1,rfl,rfl,HA,HK1,HB⟩:=hrel
  cases gk with
  | zero => exact absurd HA.out (by simp [laws_heldChainS.l0])
  | succ k1 =>
   have H:=HA.out;clear HA;simp only [laws_heldChainS.l0] at H
   by_cases c3 : x5_1<(l0.length : Int)
   ·
    rw [if_pos c3] at H
    exact absurd H (by simp)
   rw [if_neg c3] at H;have c3b0 : decide (x5_1<(l0.length : Int))=false:=decide_eq_false c3;clear c3;obtain rfl:=zS H
   go_wp2
   go_ret
   exact ⟨by first|rfl|(simp [yq,yr] <;> rfl)|(simp [*,yq,yr] <;> rfl),by repeat (with_reducible first|exact HB.out|apply za|apply zb|apply zc)⟩

end Go.Proofs.Ytncpldpddbjdgaa.Q
end
section
namespace Go.Proofs.Ytncpldpddbjdgaa.Q
open Go.RowKit Go.Proofs.YtncpldpddbjdgaaW.PrintWords Go.Proofs.YtncpldpddbjdgaaW.PrintLast Go.Proofs.YtncpldpddbjdgaaW.PrintMore
attribute [local go_sem] max2_int min2_int max_two min_two max_three min_three max_four min_four max2_str min2_str str_geq str_gtr str_leq   -- for this text's walks alone
set_option linter.unusedVariables false
set_option linter.unusedSimpArgs false

def laws_heldDefS.l0 : Nat→List (S46)→Int→Int→Option (Int)
 | 0,_,_,_ => none
 | k + 1,x0,x1,x5 => if x5<(x0.length : Int) then (none) else (some x1)
def laws_heldDefS.f (k : Nat) (l0 : List (S46)) (a1 : Int) : Option (Int):=laws_heldDefS.l0 k l0 a1 0
theorem laws_heldDefS.mono_l : ∀ k,(∀ y0 y1 y2,LeO (laws_heldDefS.l0 k y0 y1 y2) (laws_heldDefS.l0 (k + 1) y0 y1 y2))
 | 0 => fun _ _ _ r h => by simp [laws_heldDefS.l0] at h
 | k + 1 => by
  have ih0:=laws_heldDefS.mono_l k;intro y0 y1 y2;unfold laws_heldDefS.l0
  repeat' first|(with_reducible exact ih0 _ _ _)|(with_reducible exact zO _)|(with_reducible exact zL _)|(with_reducible refine zN ?_ ?_)|(with_reducible refine zM ?_ (fun _ => ?_))|refine zN ?_ ?_|refine zM ?_ (fun _ => ?_)
theorem laws_heldDefS.mono : ∀ a0 a1 k,LeO (laws_heldDefS.f k a0 a1) (laws_heldDefS.f (k + 1) a0 a1):=by
 intro a0 a1 k;have ih0:=laws_heldDefS.mono_l k;unfold laws_heldDefS.f
 repeat' first|(with_reducible exact ih0 _ _ _)|(with_reducible exact zO _)|(with_reducible exact zL _)|(with_reducible refine zN ?_ ?_)|(with_reducible refine zM ?_ (fun _ => ?_))|refine zN ?_ ?_|refine zM ?_ (fun _ => ?_)
set_option maxHeartbeats 8000000 in
set_option maxRecDepth 100000 in
theorem laws_heldDefS.calls (k : Nat) (A0 : Option Addr) (c0 : Nat) (l0 : List (S46)) (a1 : Int) (r : Int) (w : World) (hr0 : Kd.C k46 w A0 l0.length l0) (hc0 : l0.length≤c0) (h : laws_heldDefS.f k l0 a1=some r) :
  Calls Try.prog 18 #[.slice A0 l0.length c0,.int .i64 a1] w fun e w' => e = .returned (.int .i64 r)∧Below w.heap.size w w':=by
 have HR0:=zh hr0;have HC0:=zh hc0;clear hr0 hc0;have HB:=zh (Below.refl w.heap.size w);have H : (laws_heldDefS.l0 k l0 a1 0)=some r:=h;clear h;have H':=zh H;clear H
 go_enter Try.func18,Try.ntmps18
 go_wp2
 go_loopg [1,5] k (fun kq v1 v5 w' => ∃ (x1_1 : Int) (x5_1 : Int),v1 = .int .i64 x1_1∧v5 = .int .i64 x5_1∧Aside0 (laws_heldDefS.l0 kq l0 x1_1 x5_1=some r)∧Aside0 (kq≤k)∧Aside0 (Below w.heap.size w w'))
 case atStart => exact ⟨(a1),(0),(by first|rfl|(simp;done)|(simp [*];done)),(by first|rfl|(simp;done)|(simp [*];done)),H',⟨yc _⟩,⟨by repeat (with_reducible first|exact HB.out|apply za|apply zb|apply zc)⟩⟩
 case round =>
  clear H'
  try clear c1
  try clear p2
  obtain ⟨x1_1,x5_1,rfl,rfl,HA,HK1,HB⟩:=hrel
  cases gk with
  | zero => exact absurd HA.out (by simp [laws_heldDefS.l0])
  | succ k1 =>
   have H:=HA.out;clear HA;simp only [laws_heldDefS.l0] at H
   by_cases c3 : x5_1<(l0.length : Int)
   ·
    rw [if_pos c3] at H
    exact absurd H (by simp)
   rw [if_neg c3] at H;have c3b0 : decide (x5_1<(l0.length : Int))=false:=decide_eq_false c3;clear c3;obtain rfl:=zS H
   go_wp2
   go_ret
   exact ⟨by first|rfl|(simp [yq,yr] <;> rfl)|(simp [*,yq,yr] <;> rfl),by repeat (with_reducible first|exact HB.out|apply za|apply zb|apply zc)⟩

end Go.Proofs.Ytncpldpddbjdgaa.Q
end
section
namespace Go.Proofs.Ytncpldpddbjdgaa.Q
open Go.RowKit Go.Proofs.YtncpldpddbjdgaaW.PrintWords Go.Proofs.YtncpldpddbjdgaaW.PrintLast Go.Proofs.YtncpldpddbjdgaaW.PrintMore
attribute [local go_sem] max2_int min2_int max_two min_two max_three min_three max_four min_four max2_str min2_str str_geq str_gtr str_leq   -- for this text's walks alone
set_option linter.unusedVariables false
set_option linter.unusedSimpArgs false

def laws_heldColl.f (k : Nat) (a0_0 : ByteArray) (l0_1 : List (S42)) (l0_2 : List (S46)) (a1 : Int) : Option (Int):=(laws_heldChainS.f k l0_1 a1).bind fun t184 => (if t184<0 then (some (-1)) else ((laws_heldDefS.f k l0_2 t184).bind fun t185 => (if t185<0 then (some (-1)) else (some t185))))
theorem laws_heldColl.mono : ∀ a0 a1 a2 a3 k,LeO (laws_heldColl.f k a0 a1 a2 a3) (laws_heldColl.f (k + 1) a0 a1 a2 a3):=by
 intro a0 a1 a2 a3 k;unfold laws_heldColl.f
 repeat' first|(with_reducible exact laws_heldChainS.mono _ _ _)|(with_reducible exact laws_heldDefS.mono _ _ _)|(with_reducible exact zO _)|(with_reducible exact zL _)|(with_reducible refine zN ?_ ?_)|(with_reducible refine zM ?_ (fun _ => ?_))|refine zN ?_ ?_|refine zM ?_ (fun _ => ?_)
set_option maxHeartbeats 8000000 in
set_option maxRecDepth 100000 in
theorem laws_heldColl.calls (k : Nat) (a0_0 : ByteArray) (A0_1 : Option Addr) (c0_1 : Nat) (l0_1 : List (S42)) (A0_2 : Option Addr) (c0_2 : Nat) (l0_2 : List (S46)) (a1 : Int) (r : Int) (w : World) (hr0_1 : Kd.C k42 w A0_1 l0_1.length l0_1) (hc0_1 : l0_1.length≤c0_1) (hr0_2 : Kd.C k46 w A0_2 l0_2.length l0_2) (hc0_2 : l0_2.length≤c0_2) (h : laws_heldColl.f k a0_0 l0_1 l0_2 a1=some r) :
  Calls Try.prog 8 #[.agg #[.string a0_0,.slice A0_1 l0_1.length c0_1,.slice A0_2 l0_2.length c0_2],.int .i64 a1] w fun e w' => e = .returned (.int .i64 r)∧Below w.heap.size w w':=by
 have hu25:=Try.underlying25;have HR0_1:=zh hr0_1;have HC0_1:=zh hc0_1;clear hr0_1 hc0_1;have HR0_2:=zh hr0_2;have HC0_2:=zh hc0_2;clear hr0_2 hc0_2;have HB:=zh (Below.refl w.heap.size w);have H : ((laws_heldChainS.f k l0_1 a1).bind fun t184 => (if t184<0 then (some (-1)) else ((laws_heldDefS.f k l0_2 t184).bind fun t185 => (if t185<0 then (some (-1)) else (some t185)))))=some r:=h;clear h;replace H:=zR.mp H;obtain ⟨t184,A30,H⟩:=H;replace H : (if t184<0 then (some (-1)) else ((laws_heldDefS.f k l0_2 t184).bind fun t185 => (if t185<0 then (some (-1)) else (some t185))))=some r:=H;have A3:=zh A30;clear A30
 by_cases c4 : t184<0
 ·
  rw [if_pos c4] at H
  have c4b0 : decide (t184<0)=true:=decide_eq_true c4;clear c4;obtain rfl:=zS H
  go_enter Try.func8,Try.ntmps8
  go_wp2_with (first|((with_reducible refine zJ (N:=2) rfl ?_);refine zH ?hg (N:=2) ?hd (cs:=#[.string a0_0,.slice A0_1 l0_1.length c0_1,.slice A0_2 l0_2.length c0_2]) (t:=25) ?hr ?_;(case hd => rfl);(case hg => rfl);(case hr => first|(go_simp;done)|(go_simp;rfl));intro gb183 hg w5 hbox hb;have BK183:=zh (hbox);have GW183:=zh ((by rw [hg];exact (zB (by repeat (with_reducible first|exact HB.out|apply za|apply zb|apply zc))) : w.heap.size≤gb183));have GE183:=zh ((by rw [hg];exact (zB (by repeat (with_reducible first|exact HB.out|apply za|apply zb|apply zc))) : w.heap.size≤gb183));replace HB:=zh (zC (by repeat (with_reducible first|exact HB.out|apply za|apply zb|apply zc)) hb);clear hb hbox hg;have hcz6_0 : w5.cell? ⟨gb183,0,none⟩=some (.string a0_0):=(zz BK183.out 0).trans rfl;have hcz6_1 : w5.cell? ⟨gb183,1,none⟩=some (.slice A0_1 l0_1.length c0_1):=(zz BK183.out 1).trans rfl;have hcz6_2 : w5.cell? ⟨gb183,2,none⟩=some (.slice A0_2 l0_2.length c0_2):=(zz BK183.out 2).trans rfl;have hfz6_0:=zA BK183.out 0;have hfz6_1:=zA BK183.out 1;have hfz6_2:=zA BK183.out 2)|((with_reducible refine zI (f:=17) rfl ?_);refine yg (some 8) rfl rfl Try.func17 (by kernel_rfl) rfl #[.slice A0_1 l0_1.length c0_1,.int .i64 a1] rfl (by (try simp only [zt,zu,zv]);first|done|rfl|(simp only [zw,zx];rfl)|(simp only [yo,yp,zT,zU];rfl)) ?_;(with_reducible refine (laws_heldChainS.calls k  _ _ l0_1 a1 t184 _ ?side1 ?side2 A3.out).mono ?_);(case side1 => repeat (first|exact (Kd.C_below HR0_1.out HB.out)|(with_reducible refine Kd.C_alloc ?_ _)|(with_reducible refine Kd.C_drewN ?_ _)|(with_reducible refine Kd.C_drew ?_)));(case side2 => exact HC0_1.out);rintro e w7 ⟨rfl,hb⟩;refine ⟨_,rfl,?_⟩;replace BK183:=zh (zD (g:=gb183) (o:=.cells #[.string a0_0,.slice A0_1 l0_1.length c0_1,.slice A0_2 l0_2.length c0_2] 25 (0,0)) (by (with_reducible repeat (first|refine ze ?_ _|refine zf ?_|refine zg ?_ _));exact BK183.out) hb);replace HB:=zh (zC (by repeat (with_reducible first|exact HB.out|apply za|apply zb|apply zc|refine zd ?_ GE183.out)) hb);(try clear hb);(try clear hb2);(try clear hk);(try clear hi)))
  go_ret
  exact ⟨by first|rfl|(simp [yq,yr] <;> rfl)|(simp [*,yq,yr] <;> rfl),by repeat (with_reducible first|exact HB.out|apply za|apply zb|apply zc|refine zd ?_ GE183.out)⟩
 rw [if_neg c4] at H;have c4b0 : decide (t184<0)=false:=decide_eq_false c4;clear c4;replace H:=zR.mp H;obtain ⟨t185,A80,H⟩:=H;replace H : (if t185<0 then (some (-1)) else (some t185))=some r:=H;have A8:=zh A80;clear A80
 by_cases c9 : t185<0
 ·
  rw [if_pos c9] at H
  have c9b0 : decide (t185<0)=true:=decide_eq_true c9;clear c9;obtain rfl:=zS H
  go_enter Try.func8,Try.ntmps8
  go_wp2_with (first|((with_reducible refine zJ (N:=2) rfl ?_);refine zH ?hg (N:=2) ?hd (cs:=#[.string a0_0,.slice A0_1 l0_1.length c0_1,.slice A0_2 l0_2.length c0_2]) (t:=25) ?hr ?_;(case hd => rfl);(case hg => rfl);(case hr => first|(go_simp;done)|(go_simp;rfl));intro gb183 hg w10 hbox hb;have BK183:=zh (hbox);have GW183:=zh ((by rw [hg];exact (zB (by repeat (with_reducible first|exact HB.out|apply za|apply zb|apply zc))) : w.heap.size≤gb183));have GE183:=zh ((by rw [hg];exact (zB (by repeat (with_reducible first|exact HB.out|apply za|apply zb|apply zc))) : w.heap.size≤gb183));replace HB:=zh (zC (by repeat (with_reducible first|exact HB.out|apply za|apply zb|apply zc)) hb);clear hb hbox hg;have hcz11_0 : w10.cell? ⟨gb183,0,none⟩=some (.string a0_0):=(zz BK183.out 0).trans rfl;have hcz11_1 : w10.cell? ⟨gb183,1,none⟩=some (.slice A0_1 l0_1.length c0_1):=(zz BK183.out 1).trans rfl;have hcz11_2 : w10.cell? ⟨gb183,2,none⟩=some (.slice A0_2 l0_2.length c0_2):=(zz BK183.out 2).trans rfl;have hfz11_0:=zA BK183.out 0;have hfz11_1:=zA BK183.out 1;have hfz11_2:=zA BK183.out 2)|((with_reducible refine zI (f:=17) rfl ?_);refine yg (some 8) rfl rfl Try.func17 (by kernel_rfl) rfl #[.slice A0_1 l0_1.length c0_1,.int .i64 a1] rfl (by (try simp only [zt,zu,zv]);first|done|rfl|(simp only [zw,zx];rfl)|(simp only [yo,yp,zT,zU];rfl)) ?_;(with_reducible refine (laws_heldChainS.calls k  _ _ l0_1 a1 t184 _ ?side1 ?side2 A3.out).mono ?_);(case side1 => repeat (first|exact (Kd.C_below HR0_1.out HB.out)|(with_reducible refine Kd.C_alloc ?_ _)|(with_reducible refine Kd.C_drewN ?_ _)|(with_reducible refine Kd.C_drew ?_)));(case side2 => exact HC0_1.out);rintro e w12 ⟨rfl,hb⟩;refine ⟨_,rfl,?_⟩;replace BK183:=zh (zD (g:=gb183) (o:=.cells #[.string a0_0,.slice A0_1 l0_1.length c0_1,.slice A0_2 l0_2.length c0_2] 25 (0,0)) (by (with_reducible repeat (first|refine ze ?_ _|refine zf ?_|refine zg ?_ _));exact BK183.out) hb);replace HB:=zh (zC (by repeat (with_reducible first|exact HB.out|apply za|apply zb|apply zc|refine zd ?_ GE183.out)) hb);(try clear hb);(try clear hb2);(try clear hk);(try clear hi);have hcz13_0 : w12.cell? ⟨gb183,0,none⟩=some (.string a0_0):=(zz BK183.out 0).trans rfl;have hcz13_1 : w12.cell? ⟨gb183,1,none⟩=some (.slice A0_1 l0_1.length c0_1):=(zz BK183.out 1).trans rfl;have hcz13_2 : w12.cell? ⟨gb183,2,none⟩=some (.slice A0_2 l0_2.length c0_2):=(zz BK183.out 2).trans rfl;have hfz13_0:=zA BK183.out 0;have hfz13_1:=zA BK183.out 1;have hfz13_2:=zA BK183.out 2)|((with_reducible refine zI (f:=18) rfl ?_);refine yg (some 14) rfl rfl Try.func18 (by kernel_rfl) rfl #[.slice A0_2 l0_2.length c0_2,.int .i64 t184] rfl (by (try simp only [zt,zu,zv]);first|done|rfl|(simp only [zw,zx];rfl)|(simp only [yo,yp,zT,zU];rfl)) ?_;(with_reducible refine (laws_heldDefS.calls k  _ _ l0_2 t184 t185 _ ?side1 ?side2 A8.out).mono ?_);(case side1 => repeat (first|exact (Kd.C_below HR0_2.out HB.out)|(with_reducible refine Kd.C_alloc ?_ _)|(with_reducible refine Kd.C_drewN ?_ _)|(with_reducible refine Kd.C_drew ?_)));(case side2 => exact HC0_2.out);rintro e w14 ⟨rfl,hb⟩;refine ⟨_,rfl,?_⟩;replace BK183:=zh (zD (g:=gb183) (o:=.cells #[.string a0_0,.slice A0_1 l0_1.length c0_1,.slice A0_2 l0_2.length c0_2] 25 (0,0)) (by (with_reducible repeat (first|refine ze ?_ _|refine zf ?_|refine zg ?_ _));exact BK183.out) hb);replace HB:=zh (zC (by repeat (with_reducible first|exact HB.out|apply za|apply zb|apply zc|refine zd ?_ GE183.out)) hb);(try clear hb);(try clear hb2);(try clear hk);(try clear hi)))
  go_ret
  exact ⟨by first|rfl|(simp [yq,yr] <;> rfl)|(simp [*,yq,yr] <;> rfl),by repeat (with_reducible first|exact HB.out|apply za|apply zb|apply zc|refine zd ?_ GE183.out)⟩
 rw [if_neg c9] at H;have c9b0 : decide (t185<0)=false:=decide_eq_false c9;clear c9;obtain rfl:=zS H
 go_enter Try.func8,Try.ntmps8
 go_wp2_with (first|((with_reducible refine zJ (N:=2) rfl ?_);refine zH ?hg (N:=2) ?hd (cs:=#[.string a0_0,.slice A0_1 l0_1.length c0_1,.slice A0_2 l0_2.length c0_2]) (t:=25) ?hr ?_;(case hd => rfl);(case hg => rfl);(case hr => first|(go_simp;done)|(go_simp;rfl));intro gb183 hg w15 hbox hb;have BK183:=zh (hbox);have GW183:=zh ((by rw [hg];exact (zB (by repeat (with_reducible first|exact HB.out|apply za|apply zb|apply zc))) : w.heap.size≤gb183));have GE183:=zh ((by rw [hg];exact (zB (by repeat (with_reducible first|exact HB.out|apply za|apply zb|apply zc))) : w.heap.size≤gb183));replace HB:=zh (zC (by repeat (with_reducible first|exact HB.out|apply za|apply zb|apply zc)) hb);clear hb hbox hg;have hcz16_0 : w15.cell? ⟨gb183,0,none⟩=some (.string a0_0):=(zz BK183.out 0).trans rfl;have hcz16_1 : w15.cell? ⟨gb183,1,none⟩=some (.slice A0_1 l0_1.length c0_1):=(zz BK183.out 1).trans rfl;have hcz16_2 : w15.cell? ⟨gb183,2,none⟩=some (.slice A0_2 l0_2.length c0_2):=(zz BK183.out 2).trans rfl;have hfz16_0:=zA BK183.out 0;have hfz16_1:=zA BK183.out 1;have hfz16_2:=zA BK183.out 2)|((with_reducible refine zI (f:=17) rfl ?_);refine yg (some 8) rfl rfl Try.func17 (by kernel_rfl) rfl #[.slice A0_1 l0_1.length c0_1,.int .i64 a1] rfl (by (try simp only [zt,zu,zv]);first|done|rfl|(simp only [zw,zx];rfl)|(simp only [yo,yp,zT,zU];rfl)) ?_;(with_reducible refine (laws_heldChainS.calls k  _ _ l0_1 a1 t184 _ ?side1 ?side2 A3.out).mono ?_);(case side1 => repeat (first|exact (Kd.C_below HR0_1.out HB.out)|(with_reducible refine Kd.C_alloc ?_ _)|(with_reducible refine Kd.C_drewN ?_ _)|(with_reducible refine Kd.C_drew ?_)));(case side2 => exact HC0_1.out);rintro e w17 ⟨rfl,hb⟩;refine ⟨_,rfl,?_⟩;replace BK183:=zh (zD (g:=gb183) (o:=.cells #[.string a0_0,.slice A0_1 l0_1.length c0_1,.slice A0_2 l0_2.length c0_2] 25 (0,0)) (by (with_reducible repeat (first|refine ze ?_ _|refine zf ?_|refine zg ?_ _));exact BK183.out) hb);replace HB:=zh (zC (by repeat (with_reducible first|exact HB.out|apply za|apply zb|apply zc|refine zd ?_ GE183.out)) hb);(try clear hb);(try clear hb2);(try clear hk);(try clear hi);have hcz18_0 : w17.cell? ⟨gb183,0,none⟩=some (.string a0_0):=(zz BK183.out 0).trans rfl;have hcz18_1 : w17.cell? ⟨gb183,1,none⟩=some (.slice A0_1 l0_1.length c0_1):=(zz BK183.out 1).trans rfl;have hcz18_2 : w17.cell? ⟨gb183,2,none⟩=some (.slice A0_2 l0_2.length c0_2):=(zz BK183.out 2).trans rfl;have hfz18_0:=zA BK183.out 0;have hfz18_1:=zA BK183.out 1;have hfz18_2:=zA BK183.out 2)|((with_reducible refine zI (f:=18) rfl ?_);refine yg (some 14) rfl rfl Try.func18 (by kernel_rfl) rfl #[.slice A0_2 l0_2.length c0_2,.int .i64 t184] rfl (by (try simp only [zt,zu,zv]);first|done|rfl|(simp only [zw,zx];rfl)|(simp only [yo,yp,zT,zU];rfl)) ?_;(with_reducible refine (laws_heldDefS.calls k  _ _ l0_2 t184 t185 _ ?side1 ?side2 A8.out).mono ?_);(case side1 => repeat (first|exact (Kd.C_below HR0_2.out HB.out)|(with_reducible refine Kd.C_alloc ?_ _)|(with_reducible refine Kd.C_drewN ?_ _)|(with_reducible refine Kd.C_drew ?_)));(case side2 => exact HC0_2.out);rintro e w19 ⟨rfl,hb⟩;refine ⟨_,rfl,?_⟩;replace BK183:=zh (zD (g:=gb183) (o:=.cells #[.string a0_0,.slice A0_1 l0_1.length c0_1,.slice A0_2 l0_2.length c0_2] 25 (0,0)) (by (with_reducible repeat (first|refine ze ?_ _|refine zf ?_|refine zg ?_ _));exact BK183.out) hb);replace HB:=zh (zC (by repeat (with_reducible first|exact HB.out|apply za|apply zb|apply zc|refine zd ?_ GE183.out)) hb);(try clear hb);(try clear hb2);(try clear hk);(try clear hi)))
 go_ret
 exact ⟨by first|rfl|(simp [yq,yr] <;> rfl)|(simp [*,yq,yr] <;> rfl),by repeat (with_reducible first|exact HB.out|apply za|apply zb|apply zc|refine zd ?_ GE183.out)⟩

end Go.Proofs.Ytncpldpddbjdgaa.Q
end
section
namespace Go.Proofs.Ytncpldpddbjdgaa.Q
open Go.RowKit Go.Proofs.YtncpldpddbjdgaaW.PrintWords Go.Proofs.YtncpldpddbjdgaaW.PrintLast Go.Proofs.YtncpldpddbjdgaaW.PrintMore
attribute [local go_sem] max2_int min2_int max_two min_two max_three min_three max_four min_four max2_str min2_str str_geq str_gtr str_leq   -- for this text's walks alone
set_option linter.unusedVariables false
set_option linter.unusedSimpArgs false

mutual
def laws_FnExactNewColl.j0 : Nat→ByteArray→Int→Bool→ByteArray→List (S42)→List (S46)→ByteArray→List (S42)→List (S46)→Option (Bool)
 | 0,_,_,_,_,_,_,_,_,_ => none
 | k + 1,x0,x4,x32,x195000,x195001,x195002,x204000,x204001,x204002 => if x32=true then (some false) else ((laws_markColl.f k x204000 x204001 x204002 1).bind fun t205 => ((laws_heldColl.f k x204000 x204001 x204002 1).bind fun t206 => (if t206<0 then (some false) else (if t206=t205 then ((impl_NewColl.f k x0).bind fun bt207 => ((laws_eqColl.f k bt207.1 bt207.2.1 bt207.2.2.1 x195000 x195001 x195002).bind fun t216 => (if t216=true then (laws_FnExactNewColl.j1 k t205 (bt207.2.2.2 != x4) x204000 x204001 x204002) else (laws_FnExactNewColl.j1 k t205 true x204000 x204001 x204002)))) else (some false)))))
def laws_FnExactNewColl.j1 : Nat→Int→Bool→ByteArray→List (S42)→List (S46)→Option (Bool)
 | 0,_,_,_,_,_ => none
 | k + 1,x7,x57,x204000,x204001,x204002 => if x57=true then (some false) else ((laws_heldColl.f k x204000 x204001 x204002 1).bind fun t217 => (if t217<0 then (some false) else (if t217=x7 then (some true) else (some false))))
end
def laws_FnExactNewColl.f (k : Nat) (a0 : ByteArray) : Option (Bool):=if (a0.size : Int) > 1048576 then (some true) else ((spec_NewColl.f k a0).bind fun bt186 => ((impl_NewColl.f k a0).bind fun bt195 => ((laws_eqColl.f k bt195.1 bt195.2.1 bt195.2.2.1 bt186.1 bt186.2.1 bt186.2.2.1).bind fun t204 => (if t204=true then (laws_FnExactNewColl.j0 k a0 bt186.2.2.2 (bt195.2.2.2 != bt186.2.2.2) bt186.1 bt186.2.1 bt186.2.2.1 bt195.1 bt195.2.1 bt195.2.2.1) else (laws_FnExactNewColl.j0 k a0 bt186.2.2.2 true bt186.1 bt186.2.1 bt186.2.2.1 bt195.1 bt195.2.1 bt195.2.2.1)))))
theorem laws_FnExactNewColl.mono_l : ∀ k,(∀ y0 y1 y2 y3 y4 y5 y6 y7 y8,LeO (laws_FnExactNewColl.j0 k y0 y1 y2 y3 y4 y5 y6 y7 y8) (laws_FnExactNewColl.j0 (k + 1) y0 y1 y2 y3 y4 y5 y6 y7 y8))∧(∀ y0 y1 y2 y3 y4,LeO (laws_FnExactNewColl.j1 k y0 y1 y2 y3 y4) (laws_FnExactNewColl.j1 (k + 1) y0 y1 y2 y3 y4))
 | 0 => ⟨fun _ _ _ _ _ _ _ _ _ r h => by simp [laws_FnExactNewColl.j0] at h,fun _ _ _ _ _ r h => by simp [laws_FnExactNewColl.j1] at h⟩
 | k + 1 => by
  obtain ⟨ih0,ih1⟩:=laws_FnExactNewColl.mono_l k;refine ⟨?_,?_⟩
  ·
   intro y0 y1 y2 y3 y4 y5 y6 y7 y8
   unfold laws_FnExactNewColl.j0
   repeat' first|(with_reducible exact ih0 _ _ _ _ _ _ _ _ _)|(with_reducible exact ih1 _ _ _ _ _)|(with_reducible exact spec_NewColl.mono _ _)|(with_reducible exact impl_NewColl.mono _ _)|(with_reducible exact laws_eqColl.mono _ _ _ _ _ _ _)|(with_reducible exact laws_markColl.mono _ _ _ _ _)|(with_reducible exact laws_heldColl.mono _ _ _ _ _)|(with_reducible exact zO _)|(with_reducible exact zL _)|(with_reducible refine zN ?_ ?_)|(with_reducible refine zM ?_ (fun _ => ?_))|refine zN ?_ ?_|refine zM ?_ (fun _ => ?_)
  intro y0 y1 y2 y3 y4;unfold laws_FnExactNewColl.j1
  repeat' first|(with_reducible exact ih0 _ _ _ _ _ _ _ _ _)|(with_reducible exact ih1 _ _ _ _ _)|(with_reducible exact spec_NewColl.mono _ _)|(with_reducible exact impl_NewColl.mono _ _)|(with_reducible exact laws_eqColl.mono _ _ _ _ _ _ _)|(with_reducible exact laws_markColl.mono _ _ _ _ _)|(with_reducible exact laws_heldColl.mono _ _ _ _ _)|(with_reducible exact zO _)|(with_reducible exact zL _)|(with_reducible refine zN ?_ ?_)|(with_reducible refine zM ?_ (fun _ => ?_))|refine zN ?_ ?_|refine zM ?_ (fun _ => ?_)
theorem laws_FnExactNewColl.mono : ∀ a0 k,LeO (laws_FnExactNewColl.f k a0) (laws_FnExactNewColl.f (k + 1) a0):=by
 intro a0 k;obtain ⟨ih0,ih1⟩:=laws_FnExactNewColl.mono_l k;unfold laws_FnExactNewColl.f
 repeat' first|(with_reducible exact ih0 _ _ _ _ _ _ _ _ _)|(with_reducible exact ih1 _ _ _ _ _)|(with_reducible exact spec_NewColl.mono _ _)|(with_reducible exact impl_NewColl.mono _ _)|(with_reducible exact laws_eqColl.mono _ _ _ _ _ _ _)|(with_reducible exact laws_markColl.mono _ _ _ _ _)|(with_reducible exact laws_heldColl.mono _ _ _ _ _)|(with_reducible exact zO _)|(with_reducible exact zL _)|(with_reducible refine zN ?_ ?_)|(with_reducible refine zM ?_ (fun _ => ?_))|refine zN ?_ ?_|refine zM ?_ (fun _ => ?_)
set_option maxHeartbeats 8000000 in
set_option maxRecDepth 100000 in
theorem laws_FnExactNewColl.calls (k : Nat) (a0 : ByteArray) (r : Bool) (w : World) (h : laws_FnExactNewColl.f k a0=some r) :
  Calls Try.prog 3 #[.string a0] w fun e w' => e = .returned (.bool r)∧Below w.heap.size w w':=by
 have hu25:=Try.underlying25;have HB:=zh (Below.refl w.heap.size w);have H : (if (a0.size : Int) > 1048576 then (some true) else ((spec_NewColl.f k a0).bind fun bt186 => ((impl_NewColl.f k a0).bind fun bt195 => ((laws_eqColl.f k bt195.1 bt195.2.1 bt195.2.2.1 bt186.1 bt186.2.1 bt186.2.2.1).bind fun t204 => (if t204=true then (laws_FnExactNewColl.j0 k a0 bt186.2.2.2 (bt195.2.2.2 != bt186.2.2.2) bt186.1 bt186.2.1 bt186.2.2.1 bt195.1 bt195.2.1 bt195.2.2.1) else (laws_FnExactNewColl.j0 k a0 bt186.2.2.2 true bt186.1 bt186.2.1 bt186.2.2.1 bt195.1 bt195.2.1 bt195.2.2.1))))))=some r:=h;clear h
 by_cases c2 : (a0.size : Int) > 1048576
 ·
  rw [if_pos c2] at H
  have c2b0 : decide (1048576<(a0.size : Int))=true:=decide_eq_true c2;have c2b1 : decide (1048576<a0.size)=true:=decide_eq_true (by omega);clear c2;obtain rfl:=zS H
  go_enter Try.func3,Try.ntmps3
  go_wp2
  go_ret
  exact ⟨by first|rfl|(simp [yq,yr] <;> rfl)|(simp [*,yq,yr] <;> rfl),by repeat (with_reducible first|exact HB.out|apply za|apply zb|apply zc)⟩
 rw [if_neg c2] at H;have c2b0 : decide (1048576<(a0.size : Int))=false:=decide_eq_false c2;have c2b1 : decide (1048576<a0.size)=false:=decide_eq_false (by omega);clear c2;replace H:=zR.mp H;obtain ⟨⟨t186,t187,t190,t193⟩,A30,H⟩:=H;replace H : ((impl_NewColl.f k a0).bind fun bt195 => ((laws_eqColl.f k bt195.1 bt195.2.1 bt195.2.2.1 t186 t187 t190).bind fun t204 => (if t204=true then (laws_FnExactNewColl.j0 k a0 t193 (bt195.2.2.2 != t193) t186 t187 t190 bt195.1 bt195.2.1 bt195.2.2.1) else (laws_FnExactNewColl.j0 k a0 t193 true t186 t187 t190 bt195.1 bt195.2.1 bt195.2.2.1))))=some r:=H;have A3:=zh A30;clear A30;replace H:=zR.mp H;obtain ⟨⟨t195,t196,t199,t202⟩,A40,H⟩:=H;replace H : ((laws_eqColl.f k t195 t196 t199 t186 t187 t190).bind fun t204 => (if t204=true then (laws_FnExactNewColl.j0 k a0 t193 (t202 != t193) t186 t187 t190 t195 t196 t199) else (laws_FnExactNewColl.j0 k a0 t193 true t186 t187 t190 t195 t196 t199)))=some r:=H;have A4:=zh A40;clear A40;have HC5:=zh H;clear H
 go_enter Try.func3,Try.ntmps3
 go_upto_region 5 with (first|((with_reducible refine zI (f:=4) rfl ?_);refine yg (some 16) rfl rfl Try.func4 (by kernel_rfl) rfl #[.string a0] rfl (by (try simp only [zt,zu,zv]);first|done|rfl|(simp only [zw,zx];rfl)|(simp only [yo,yp,zT,zU];rfl)) ?_;(with_reducible refine (spec_NewColl.calls k  a0 t186 t187 t190 t193 _ A3.out).mono ?_);rintro e w6 ⟨v188,v191,rfl,ho0,ho1,hb⟩;refine ⟨_,rfl,?_⟩;have HO189:=zh (Kd.S_lower ho0 (zB (by repeat (with_reducible first|exact HB.out|apply za|apply zb|apply zc))));have HO192:=zh (Kd.S_lower ho1 (zB (by repeat (with_reducible first|exact HB.out|apply za|apply zb|apply zc))));replace HB:=zh (zC (by repeat (with_reducible first|exact HB.out|apply za|apply zb|apply zc)) hb);(try clear hb);(try clear hb2);(try clear hk);(try clear hi);(try clear ho0);(try clear ho1))|((with_reducible refine zJ (N:=3) rfl ?_);refine zH ?hg (N:=3) ?hd (cs:=#[.string (⟨#[]⟩ : ByteArray),.slice none 0 0,.slice none 0 0]) (t:=25) ?hr ?_;(case hd => rfl);(case hg => rfl);(case hr => first|(go_simp;done)|(go_simp;rfl));intro gb194 hg w7 hbox hb;replace HO189:=zh (Kd.S_below (by (with_reducible repeat (first|apply Kd.S_alloc|apply Kd.S_drewN|apply Kd.S_drew));exact HO189.out) hb);replace HO192:=zh (Kd.S_below (by (with_reducible repeat (first|apply Kd.S_alloc|apply Kd.S_drewN|apply Kd.S_drew));exact HO192.out) hb);have BK194:=zh (hbox);have GW194:=zh ((by rw [hg];exact (zB (by repeat (with_reducible first|exact HB.out|apply za|apply zb|apply zc))) : w.heap.size≤gb194));have GE194:=zh ((by rw [hg];exact (zB (by repeat (with_reducible first|exact HB.out|apply za|apply zb|apply zc))) : w.heap.size≤gb194));replace HB:=zh (zC (by repeat (with_reducible first|exact HB.out|apply za|apply zb|apply zc)) hb);clear hb hbox hg;have hcz8_0 : w7.cell? ⟨gb194,0,none⟩=some (.string (⟨#[]⟩ : ByteArray)):=(zz BK194.out 0).trans rfl;have hcz8_1 : w7.cell? ⟨gb194,1,none⟩=some (.slice none 0 0):=(zz BK194.out 1).trans rfl;have hcz8_2 : w7.cell? ⟨gb194,2,none⟩=some (.slice none 0 0):=(zz BK194.out 2).trans rfl;have hfz8_0:=zA BK194.out 0;have hfz8_1:=zA BK194.out 1;have hfz8_2:=zA BK194.out 2;obtain ⟨Ao9,co9,eo9⟩:=Kd.S_slice HO189.out;subst eo9;obtain ⟨Ao10,co10,eo10⟩:=Kd.S_slice HO192.out;subst eo10)|((with_reducible refine zI (f:=5) rfl ?_);refine yg (some 21) rfl rfl Try.func5 (by kernel_rfl) rfl #[.string a0] rfl (by (try simp only [zt,zu,zv]);first|done|rfl|(simp only [zw,zx];rfl)|(simp only [yo,yp,zT,zU];rfl)) ?_;(with_reducible refine (impl_NewColl.calls k  a0 t195 t196 t199 t202 _ A4.out).mono ?_);rintro e w11 ⟨v197,v200,rfl,ho0,ho1,hb⟩;refine ⟨_,rfl,?_⟩;have HO198:=zh (Kd.S_lower (Kd.S_new' ho0 (Kd.S_lt (by (with_reducible repeat (first|apply Kd.S_alloc|apply Kd.S_drewN|apply Kd.S_drew));exact (Kd.S_mono (Kd.S_far (p:=⟨gb194,2,none⟩) (Kd.S_far (p:=⟨gb194,1,none⟩) (Kd.S_far (p:=⟨gb194,0,none⟩) (Kd.S_types HO189.out BK194.out (by decide)) (fun _ hk => hk.2) (.string t186)) (fun _ hk => hk.2) (.slice Ao9 t187.length co9)) (fun _ hk => hk.2) (.slice Ao10 t190.length co10)) (fun _ h_ => h_.1))))) (zB (by repeat (with_reducible first|exact HB.out|apply za|apply zb|apply zc|refine zd ?_ GE194.out))));replace HO189:=zh (Kd.S_elder' (by (with_reducible repeat (first|apply Kd.S_alloc|apply Kd.S_drewN|apply Kd.S_drew));exact (Kd.S_mono (Kd.S_far (p:=⟨gb194,2,none⟩) (Kd.S_far (p:=⟨gb194,1,none⟩) (Kd.S_far (p:=⟨gb194,0,none⟩) (Kd.S_types HO189.out BK194.out (by decide)) (fun _ hk => hk.2) (.string t186)) (fun _ hk => hk.2) (.slice Ao9 t187.length co9)) (fun _ hk => hk.2) (.slice Ao10 t190.length co10)) (fun _ h_ => h_.1))) (Kd.S_base ho0) hb);have HO201:=zh (Kd.S_lower (Kd.S_new' ho1 (Kd.S_lt (by (with_reducible repeat (first|apply Kd.S_alloc|apply Kd.S_drewN|apply Kd.S_drew));exact (Kd.S_mono (Kd.S_far (p:=⟨gb194,2,none⟩) (Kd.S_far (p:=⟨gb194,1,none⟩) (Kd.S_far (p:=⟨gb194,0,none⟩) (Kd.S_types HO192.out BK194.out (by decide)) (fun _ hk => hk.2) (.string t186)) (fun _ hk => hk.2) (.slice Ao9 t187.length co9)) (fun _ hk => hk.2) (.slice Ao10 t190.length co10)) (fun _ h_ => h_.1))))) (zB (by repeat (with_reducible first|exact HB.out|apply za|apply zb|apply zc|refine zd ?_ GE194.out))));replace HO192:=zh (Kd.S_elder' (by (with_reducible repeat (first|apply Kd.S_alloc|apply Kd.S_drewN|apply Kd.S_drew));exact (Kd.S_mono (Kd.S_far (p:=⟨gb194,2,none⟩) (Kd.S_far (p:=⟨gb194,1,none⟩) (Kd.S_far (p:=⟨gb194,0,none⟩) (Kd.S_types HO192.out BK194.out (by decide)) (fun _ hk => hk.2) (.string t186)) (fun _ hk => hk.2) (.slice Ao9 t187.length co9)) (fun _ hk => hk.2) (.slice Ao10 t190.length co10)) (fun _ h_ => h_.1))) (Kd.S_base ho1) hb);replace BK194:=zh (zD (g:=gb194) (o:=.cells #[.string t186,.slice Ao9 t187.length co9,.slice Ao10 t190.length co10] 25 (0,0)) (by (with_reducible repeat (first|refine ze ?_ _|refine zf ?_|refine zg ?_ _));refine zK (cs:=#[.string t186,.slice Ao9 t187.length co9,.slice none 0 0]) ?_ 2 _ rfl;(with_reducible repeat (first|refine ze ?_ _|refine zf ?_|refine zg ?_ _));refine zK (cs:=#[.string t186,.slice none 0 0,.slice none 0 0]) ?_ 1 _ rfl;(with_reducible repeat (first|refine ze ?_ _|refine zf ?_|refine zg ?_ _));refine zK (cs:=#[.string (⟨#[]⟩ : ByteArray),.slice none 0 0,.slice none 0 0]) ?_ 0 _ rfl;(with_reducible repeat (first|refine ze ?_ _|refine zf ?_|refine zg ?_ _));exact BK194.out) hb);replace HB:=zh (zC (by repeat (with_reducible first|exact HB.out|apply za|apply zb|apply zc|refine zd ?_ GE194.out)) hb);(try clear hb);(try clear hb2);(try clear hk);(try clear hi);(try clear ho0);(try clear ho1))|((with_reducible refine zJ (N:=5) rfl ?_);refine zH ?hg (N:=5) ?hd (cs:=#[.string (⟨#[]⟩ : ByteArray),.slice none 0 0,.slice none 0 0]) (t:=25) ?hr ?_;(case hd => rfl);(case hg => rfl);(case hr => first|(go_simp;done)|(go_simp;rfl));intro gb203 hg w12 hbox hb;replace HO189:=zh (Kd.S_below (by (with_reducible repeat (first|apply Kd.S_alloc|apply Kd.S_drewN|apply Kd.S_drew));exact HO189.out) hb);replace HO192:=zh (Kd.S_below (by (with_reducible repeat (first|apply Kd.S_alloc|apply Kd.S_drewN|apply Kd.S_drew));exact HO192.out) hb);replace HO198:=zh (Kd.S_below (by (with_reducible repeat (first|apply Kd.S_alloc|apply Kd.S_drewN|apply Kd.S_drew));exact HO198.out) hb);replace HO201:=zh (Kd.S_below (by (with_reducible repeat (first|apply Kd.S_alloc|apply Kd.S_drewN|apply Kd.S_drew));exact HO201.out) hb);have BK203:=zh (hbox);have GW203:=zh ((by rw [hg];exact (zB (by repeat (with_reducible first|exact HB.out|apply za|apply zb|apply zc|refine zd ?_ GE194.out))) : w.heap.size≤gb203));have GE203:=zh ((by rw [hg];exact (zB (by repeat (with_reducible first|exact HB.out|apply za|apply zb|apply zc|refine zd ?_ GE194.out))) : w.heap.size≤gb203));replace HB:=zh (zC (by repeat (with_reducible first|exact HB.out|apply za|apply zb|apply zc|refine zd ?_ GE194.out)) hb);have NB194_203:=zh ((by rw [hg];exact ya (yf (g:=gb194) (o:=.cells #[.string t186,.slice Ao9 t187.length co9,.slice Ao10 t190.length co10] 25 (0,0)) (by (with_reducible repeat (first|refine ze ?_ _|refine zf ?_|refine zg ?_ _));exact BK194.out)) : gb194≠gb203));have NB203_194:=zh ((by rw [hg];exact yb (yf (g:=gb194) (o:=.cells #[.string t186,.slice Ao9 t187.length co9,.slice Ao10 t190.length co10] 25 (0,0)) (by (with_reducible repeat (first|refine ze ?_ _|refine zf ?_|refine zg ?_ _));exact BK194.out)) : gb203≠gb194));replace BK194:=zh (zD (g:=gb194) (o:=.cells #[.string t186,.slice Ao9 t187.length co9,.slice Ao10 t190.length co10] 25 (0,0)) (by (with_reducible repeat (first|refine ze ?_ _|refine zf ?_|refine zg ?_ _));exact BK194.out) hb);clear hb hbox hg;have hnb13:=NB203_194.out;have hnc13:=NB194_203.out;have hcz14_0 : w12.cell? ⟨gb203,0,none⟩=some (.string (⟨#[]⟩ : ByteArray)):=(zz BK203.out 0).trans rfl;have hcz14_1 : w12.cell? ⟨gb203,1,none⟩=some (.slice none 0 0):=(zz BK203.out 1).trans rfl;have hcz14_2 : w12.cell? ⟨gb203,2,none⟩=some (.slice none 0 0):=(zz BK203.out 2).trans rfl;have hfz14_0:=zA BK203.out 0;have hfz14_1:=zA BK203.out 1;have hfz14_2:=zA BK203.out 2;obtain ⟨Ao15,co15,eo15⟩:=Kd.S_slice HO198.out;subst eo15;obtain ⟨Ao16,co16,eo16⟩:=Kd.S_slice HO201.out;subst eo16))
 (try simp only [Act.put,zi,zj,zk])
 go_cut [32] (fun v32 wc => ∃ (kq : Nat) (x32_4 : Bool),v32 = .bool x32_4∧Aside0 (laws_FnExactNewColl.j0 kq a0 t193 x32_4 t186 t187 t190 t195 t196 t199=some r)∧Aside0 (kq≤k)∧Aside0 (Kd.S k42 42 wc w.heap.size (fun k_ => some k_≠((.slice Ao15 t196.length co15) : Value).ownBlock) (.slice Ao9 t187.length co9) t187)∧Aside0 (Kd.S k46 46 wc w.heap.size (fun k_ => some k_≠((.slice Ao16 t199.length co16) : Value).ownBlock) (.slice Ao10 t190.length co10) t190)∧Aside0 (Kd.S k42 42 wc w.heap.size (fun k_ => some k_≠((.slice Ao9 t187.length co9) : Value).ownBlock) (.slice Ao15 t196.length co15) t196)∧Aside0 (Kd.S k46 46 wc w.heap.size (fun k_ => some k_≠((.slice Ao10 t190.length co10) : Value).ownBlock) (.slice Ao16 t199.length co16) t199)∧Aside0 (wc.heap[gb194]? = some (.cells #[.string t186,(.slice Ao9 t187.length co9),(.slice Ao10 t190.length co10)] 25 (0,0)))∧Aside0 (wc.heap[gb203]? = some (.cells #[.string t195,(.slice Ao15 t196.length co15),(.slice Ao16 t199.length co16)] 25 (0,0)))∧Aside0 (Below w.heap.size w wc))
 case first =>
  have H:=HC5.out;clear HC5;replace H:=zR.mp H;obtain ⟨t204,A170,H⟩:=H;replace H : (if t204=true then (laws_FnExactNewColl.j0 k a0 t193 (t202 != t193) t186 t187 t190 t195 t196 t199) else (laws_FnExactNewColl.j0 k a0 t193 true t186 t187 t190 t195 t196 t199))=some r:=H;have A17:=zh A170;clear A170
  by_cases c18 : t204=true
  ·
   subst c18
   have H1 : (laws_FnExactNewColl.j0 k a0 t193 (t202 != t193) t186 t187 t190 t195 t196 t199)=some r:=by rw [if_pos rfl] at H;exact H
   clear H;have H:=H1;clear H1;have H':=zh H;clear H;have hnb19:=NB203_194.out;have hnc19:=NB194_203.out;have hcz20_0 : w12.cell? ⟨gb203,0,none⟩=some (.string (⟨#[]⟩ : ByteArray)):=(zz BK203.out 0).trans rfl;have hcz20_1 : w12.cell? ⟨gb203,1,none⟩=some (.slice none 0 0):=(zz BK203.out 1).trans rfl;have hcz20_2 : w12.cell? ⟨gb203,2,none⟩=some (.slice none 0 0):=(zz BK203.out 2).trans rfl;have hfz20_0:=zA BK203.out 0;have hfz20_1:=zA BK203.out 1;have hfz20_2:=zA BK203.out 2;have hcz21_0 : w12.cell? ⟨gb194,0,none⟩=some (.string t186):=(zz BK194.out 0).trans rfl;have hcz21_1 : w12.cell? ⟨gb194,1,none⟩=some (.slice Ao9 t187.length co9):=(zz BK194.out 1).trans rfl;have hcz21_2 : w12.cell? ⟨gb194,2,none⟩=some (.slice Ao10 t190.length co10):=(zz BK194.out 2).trans rfl;have hfz21_0:=zA BK194.out 0;have hfz21_1:=zA BK194.out 1;have hfz21_2:=zA BK194.out 2
   go_wp2_with (first|((with_reducible refine zI (f:=6) rfl ?_);refine yg (some 26) rfl rfl Try.func6 (by kernel_rfl) rfl #[.agg #[.string t195,.slice Ao15 t196.length co15,.slice Ao16 t199.length co16],.agg #[.string t186,.slice Ao9 t187.length co9,.slice Ao10 t190.length co10]] rfl (by (try simp only [zt,zu,zv]);first|done|rfl|(simp only [zw,zx];rfl)|(simp only [yo,yp,zT,zU];rfl)) ?_;(with_reducible refine (laws_eqColl.calls k  t195 _ _ t196 _ _ t199 t186 _ _ t187 _ _ t190 true _ ?side1 ?side2 ?side3 ?side4 ?side5 ?side6 ?side7 ?side8 A17.out).mono ?_);(case side1 => refine (Kd.S_reads' (e:=42) (base:=w.heap.size) (ok:=fun k_ => (True∧some k_≠(.slice Ao9 t187.length co9 : Value).ownBlock)) (n:=t196.length) (c:=co15) ?_).2.2;exact (by (with_reducible repeat (first|apply Kd.S_alloc|apply Kd.S_drewN|apply Kd.S_drew));exact (Kd.S_mono (Kd.S_far (p:=⟨gb203,2,none⟩) (Kd.S_far (p:=⟨gb203,1,none⟩) (Kd.S_far (p:=⟨gb203,0,none⟩) (Kd.S_types HO198.out BK203.out (by decide)) (fun _ hk => hk.2) (.string t195)) (fun _ hk => hk.2) (.slice Ao15 t196.length co15)) (fun _ hk => hk.2) (.slice Ao16 t199.length co16)) (fun _ h_ => h_.1))));(case side2 => exact (Kd.S_reads' HO198.out).2.1);(case side3 => refine (Kd.S_reads' (e:=46) (base:=w.heap.size) (ok:=fun k_ => (True∧some k_≠(.slice Ao10 t190.length co10 : Value).ownBlock)) (n:=t199.length) (c:=co16) ?_).2.2;exact (by (with_reducible repeat (first|apply Kd.S_alloc|apply Kd.S_drewN|apply Kd.S_drew));exact (Kd.S_mono (Kd.S_far (p:=⟨gb203,2,none⟩) (Kd.S_far (p:=⟨gb203,1,none⟩) (Kd.S_far (p:=⟨gb203,0,none⟩) (Kd.S_types HO201.out BK203.out (by decide)) (fun _ hk => hk.2) (.string t195)) (fun _ hk => hk.2) (.slice Ao15 t196.length co15)) (fun _ hk => hk.2) (.slice Ao16 t199.length co16)) (fun _ h_ => h_.1))));(case side4 => exact (Kd.S_reads' HO201.out).2.1);(case side5 => refine (Kd.S_reads' (e:=42) (base:=w.heap.size) (ok:=fun k_ => (True∧some k_≠(.slice Ao15 t196.length co15 : Value).ownBlock)) (n:=t187.length) (c:=co9) ?_).2.2;exact (by (with_reducible repeat (first|apply Kd.S_alloc|apply Kd.S_drewN|apply Kd.S_drew));exact (Kd.S_mono (Kd.S_far (p:=⟨gb203,2,none⟩) (Kd.S_far (p:=⟨gb203,1,none⟩) (Kd.S_far (p:=⟨gb203,0,none⟩) (Kd.S_types HO189.out BK203.out (by decide)) (fun _ hk => hk.2) (.string t195)) (fun _ hk => hk.2) (.slice Ao15 t196.length co15)) (fun _ hk => hk.2) (.slice Ao16 t199.length co16)) (fun _ h_ => h_.1))));(case side6 => exact (Kd.S_reads' HO189.out).2.1);(case side7 => refine (Kd.S_reads' (e:=46) (base:=w.heap.size) (ok:=fun k_ => (True∧some k_≠(.slice Ao16 t199.length co16 : Value).ownBlock)) (n:=t190.length) (c:=co10) ?_).2.2;exact (by (with_reducible repeat (first|apply Kd.S_alloc|apply Kd.S_drewN|apply Kd.S_drew));exact (Kd.S_mono (Kd.S_far (p:=⟨gb203,2,none⟩) (Kd.S_far (p:=⟨gb203,1,none⟩) (Kd.S_far (p:=⟨gb203,0,none⟩) (Kd.S_types HO192.out BK203.out (by decide)) (fun _ hk => hk.2) (.string t195)) (fun _ hk => hk.2) (.slice Ao15 t196.length co15)) (fun _ hk => hk.2) (.slice Ao16 t199.length co16)) (fun _ h_ => h_.1))));(case side8 => exact (Kd.S_reads' HO192.out).2.1);rintro e w22 ⟨rfl,hb⟩;refine ⟨_,rfl,?_⟩;replace HO189:=zh (Kd.S_below (by (with_reducible repeat (first|apply Kd.S_alloc|apply Kd.S_drewN|apply Kd.S_drew));exact (Kd.S_mono (Kd.S_far (p:=⟨gb203,2,none⟩) (Kd.S_far (p:=⟨gb203,1,none⟩) (Kd.S_far (p:=⟨gb203,0,none⟩) (Kd.S_types HO189.out BK203.out (by decide)) (fun _ hk => hk.2) (.string t195)) (fun _ hk => hk.2) (.slice Ao15 t196.length co15)) (fun _ hk => hk.2) (.slice Ao16 t199.length co16)) (fun _ h_ => h_.1))) hb);replace HO192:=zh (Kd.S_below (by (with_reducible repeat (first|apply Kd.S_alloc|apply Kd.S_drewN|apply Kd.S_drew));exact (Kd.S_mono (Kd.S_far (p:=⟨gb203,2,none⟩) (Kd.S_far (p:=⟨gb203,1,none⟩) (Kd.S_far (p:=⟨gb203,0,none⟩) (Kd.S_types HO192.out BK203.out (by decide)) (fun _ hk => hk.2) (.string t195)) (fun _ hk => hk.2) (.slice Ao15 t196.length co15)) (fun _ hk => hk.2) (.slice Ao16 t199.length co16)) (fun _ h_ => h_.1))) hb);replace HO198:=zh (Kd.S_below (by (with_reducible repeat (first|apply Kd.S_alloc|apply Kd.S_drewN|apply Kd.S_drew));exact (Kd.S_mono (Kd.S_far (p:=⟨gb203,2,none⟩) (Kd.S_far (p:=⟨gb203,1,none⟩) (Kd.S_far (p:=⟨gb203,0,none⟩) (Kd.S_types HO198.out BK203.out (by decide)) (fun _ hk => hk.2) (.string t195)) (fun _ hk => hk.2) (.slice Ao15 t196.length co15)) (fun _ hk => hk.2) (.slice Ao16 t199.length co16)) (fun _ h_ => h_.1))) hb);replace HO201:=zh (Kd.S_below (by (with_reducible repeat (first|apply Kd.S_alloc|apply Kd.S_drewN|apply Kd.S_drew));exact (Kd.S_mono (Kd.S_far (p:=⟨gb203,2,none⟩) (Kd.S_far (p:=⟨gb203,1,none⟩) (Kd.S_far (p:=⟨gb203,0,none⟩) (Kd.S_types HO201.out BK203.out (by decide)) (fun _ hk => hk.2) (.string t195)) (fun _ hk => hk.2) (.slice Ao15 t196.length co15)) (fun _ hk => hk.2) (.slice Ao16 t199.length co16)) (fun _ h_ => h_.1))) hb);replace BK194:=zh (zD (g:=gb194) (o:=.cells #[.string t186,.slice Ao9 t187.length co9,.slice Ao10 t190.length co10] 25 (0,0)) (by (with_reducible repeat (first|refine ze ?_ _|refine zf ?_|refine zg ?_ _));refine zQ ?_ NB194_203.out _;(with_reducible repeat (first|refine ze ?_ _|refine zf ?_|refine zg ?_ _));refine zQ ?_ NB194_203.out _;(with_reducible repeat (first|refine ze ?_ _|refine zf ?_|refine zg ?_ _));refine zQ ?_ NB194_203.out _;(with_reducible repeat (first|refine ze ?_ _|refine zf ?_|refine zg ?_ _));exact BK194.out) hb);replace BK203:=zh (zD (g:=gb203) (o:=.cells #[.string t195,.slice Ao15 t196.length co15,.slice Ao16 t199.length co16] 25 (0,0)) (by (with_reducible repeat (first|refine ze ?_ _|refine zf ?_|refine zg ?_ _));refine zK (cs:=#[.string t195,.slice Ao15 t196.length co15,.slice none 0 0]) ?_ 2 _ rfl;(with_reducible repeat (first|refine ze ?_ _|refine zf ?_|refine zg ?_ _));refine zK (cs:=#[.string t195,.slice none 0 0,.slice none 0 0]) ?_ 1 _ rfl;(with_reducible repeat (first|refine ze ?_ _|refine zf ?_|refine zg ?_ _));refine zK (cs:=#[.string (⟨#[]⟩ : ByteArray),.slice none 0 0,.slice none 0 0]) ?_ 0 _ rfl;(with_reducible repeat (first|refine ze ?_ _|refine zf ?_|refine zg ?_ _));exact BK203.out) hb);replace HB:=zh (zC (by repeat (with_reducible first|exact HB.out|apply za|apply zb|apply zc|refine zd ?_ GE194.out|refine zd ?_ GE203.out)) hb);(try clear hb);(try clear hb2);(try clear hk);(try clear hi)))
   go_meet
   case rel => exact ⟨_,((t202 != t193)),(by first|rfl|(simp;done)|(simp [*];done)),H',⟨by first|omega|exact yc _⟩,⟨by (with_reducible repeat (first|apply Kd.S_alloc|apply Kd.S_drewN|apply Kd.S_drew));exact Kd.S_mono HO189.out (fun _ hk => hk.2)⟩,⟨by (with_reducible repeat (first|apply Kd.S_alloc|apply Kd.S_drewN|apply Kd.S_drew));exact Kd.S_mono HO192.out (fun _ hk => hk.2)⟩,⟨by (with_reducible repeat (first|apply Kd.S_alloc|apply Kd.S_drewN|apply Kd.S_drew));exact Kd.S_mono HO198.out (fun _ hk => hk.2)⟩,⟨by (with_reducible repeat (first|apply Kd.S_alloc|apply Kd.S_drewN|apply Kd.S_drew));exact Kd.S_mono HO201.out (fun _ hk => hk.2)⟩,⟨by (with_reducible repeat (first|refine ze ?_ _|refine zf ?_|refine zg ?_ _));exact BK194.out⟩,⟨by (with_reducible repeat (first|refine ze ?_ _|refine zf ?_|refine zg ?_ _));exact BK203.out⟩,⟨by repeat (with_reducible first|exact HB.out|apply za|apply zb|apply zc|refine zd ?_ GE194.out|refine zd ?_ GE203.out)⟩⟩
  replace c18:=zZ.mpr c18;subst c18;have H1 : (laws_FnExactNewColl.j0 k a0 t193 true t186 t187 t190 t195 t196 t199)=some r:=by rw [if_neg (show ¬ (false=true) by decide)] at H;exact H
  clear H;have H:=H1;clear H1;have H':=zh H;clear H;have hnb23:=NB203_194.out;have hnc23:=NB194_203.out;have hcz24_0 : w12.cell? ⟨gb203,0,none⟩=some (.string (⟨#[]⟩ : ByteArray)):=(zz BK203.out 0).trans rfl;have hcz24_1 : w12.cell? ⟨gb203,1,none⟩=some (.slice none 0 0):=(zz BK203.out 1).trans rfl;have hcz24_2 : w12.cell? ⟨gb203,2,none⟩=some (.slice none 0 0):=(zz BK203.out 2).trans rfl;have hfz24_0:=zA BK203.out 0;have hfz24_1:=zA BK203.out 1;have hfz24_2:=zA BK203.out 2;have hcz25_0 : w12.cell? ⟨gb194,0,none⟩=some (.string t186):=(zz BK194.out 0).trans rfl;have hcz25_1 : w12.cell? ⟨gb194,1,none⟩=some (.slice Ao9 t187.length co9):=(zz BK194.out 1).trans rfl;have hcz25_2 : w12.cell? ⟨gb194,2,none⟩=some (.slice Ao10 t190.length co10):=(zz BK194.out 2).trans rfl;have hfz25_0:=zA BK194.out 0;have hfz25_1:=zA BK194.out 1;have hfz25_2:=zA BK194.out 2
  go_wp2_with (first|((with_reducible refine zI (f:=6) rfl ?_);refine yg (some 26) rfl rfl Try.func6 (by kernel_rfl) rfl #[.agg #[.string t195,.slice Ao15 t196.length co15,.slice Ao16 t199.length co16],.agg #[.string t186,.slice Ao9 t187.length co9,.slice Ao10 t190.length co10]] rfl (by (try simp only [zt,zu,zv]);first|done|rfl|(simp only [zw,zx];rfl)|(simp only [yo,yp,zT,zU];rfl)) ?_;(with_reducible refine (laws_eqColl.calls k  t195 _ _ t196 _ _ t199 t186 _ _ t187 _ _ t190 false _ ?side1 ?side2 ?side3 ?side4 ?side5 ?side6 ?side7 ?side8 A17.out).mono ?_);(case side1 => refine (Kd.S_reads' (e:=42) (base:=w.heap.size) (ok:=fun k_ => (True∧some k_≠(.slice Ao9 t187.length co9 : Value).ownBlock)) (n:=t196.length) (c:=co15) ?_).2.2;exact (by (with_reducible repeat (first|apply Kd.S_alloc|apply Kd.S_drewN|apply Kd.S_drew));exact (Kd.S_mono (Kd.S_far (p:=⟨gb203,2,none⟩) (Kd.S_far (p:=⟨gb203,1,none⟩) (Kd.S_far (p:=⟨gb203,0,none⟩) (Kd.S_types HO198.out BK203.out (by decide)) (fun _ hk => hk.2) (.string t195)) (fun _ hk => hk.2) (.slice Ao15 t196.length co15)) (fun _ hk => hk.2) (.slice Ao16 t199.length co16)) (fun _ h_ => h_.1))));(case side2 => exact (Kd.S_reads' HO198.out).2.1);(case side3 => refine (Kd.S_reads' (e:=46) (base:=w.heap.size) (ok:=fun k_ => (True∧some k_≠(.slice Ao10 t190.length co10 : Value).ownBlock)) (n:=t199.length) (c:=co16) ?_).2.2;exact (by (with_reducible repeat (first|apply Kd.S_alloc|apply Kd.S_drewN|apply Kd.S_drew));exact (Kd.S_mono (Kd.S_far (p:=⟨gb203,2,none⟩) (Kd.S_far (p:=⟨gb203,1,none⟩) (Kd.S_far (p:=⟨gb203,0,none⟩) (Kd.S_types HO201.out BK203.out (by decide)) (fun _ hk => hk.2) (.string t195)) (fun _ hk => hk.2) (.slice Ao15 t196.length co15)) (fun _ hk => hk.2) (.slice Ao16 t199.length co16)) (fun _ h_ => h_.1))));(case side4 => exact (Kd.S_reads' HO201.out).2.1);(case side5 => refine (Kd.S_reads' (e:=42) (base:=w.heap.size) (ok:=fun k_ => (True∧some k_≠(.slice Ao15 t196.length co15 : Value).ownBlock)) (n:=t187.length) (c:=co9) ?_).2.2;exact (by (with_reducible repeat (first|apply Kd.S_alloc|apply Kd.S_drewN|apply Kd.S_drew));exact (Kd.S_mono (Kd.S_far (p:=⟨gb203,2,none⟩) (Kd.S_far (p:=⟨gb203,1,none⟩) (Kd.S_far (p:=⟨gb203,0,none⟩) (Kd.S_types HO189.out BK203.out (by decide)) (fun _ hk => hk.2) (.string t195)) (fun _ hk => hk.2) (.slice Ao15 t196.length co15)) (fun _ hk => hk.2) (.slice Ao16 t199.length co16)) (fun _ h_ => h_.1))));(case side6 => exact (Kd.S_reads' HO189.out).2.1);(case side7 => refine (Kd.S_reads' (e:=46) (base:=w.heap.size) (ok:=fun k_ => (True∧some k_≠(.slice Ao16 t199.length co16 : Value).ownBlock)) (n:=t190.length) (c:=co10) ?_).2.2;exact (by (with_reducible repeat (first|apply Kd.S_alloc|apply Kd.S_drewN|apply Kd.S_drew));exact (Kd.S_mono (Kd.S_far (p:=⟨gb203,2,none⟩) (Kd.S_far (p:=⟨gb203,1,none⟩) (Kd.S_far (p:=⟨gb203,0,none⟩) (Kd.S_types HO192.out BK203.out (by decide)) (fun _ hk => hk.2) (.string t195)) (fun _ hk => hk.2) (.slice Ao15 t196.length co15)) (fun _ hk => hk.2) (.slice Ao16 t199.length co16)) (fun _ h_ => h_.1))));(case side8 => exact (Kd.S_reads' HO192.out).2.1);rintro e w26 ⟨rfl,hb⟩;refine ⟨_,rfl,?_⟩;replace HO189:=zh (Kd.S_below (by (with_reducible repeat (first|apply Kd.S_alloc|apply Kd.S_drewN|apply Kd.S_drew));exact (Kd.S_mono (Kd.S_far (p:=⟨gb203,2,none⟩) (Kd.S_far (p:=⟨gb203,1,none⟩) (Kd.S_far (p:=⟨gb203,0,none⟩) (Kd.S_types HO189.out BK203.out (by decide)) (fun _ hk => hk.2) (.string t195)) (fun _ hk => hk.2) (.slice Ao15 t196.length co15)) (fun _ hk => hk.2) (.slice Ao16 t199.length co16)) (fun _ h_ => h_.1))) hb);replace HO192:=zh (Kd.S_below (by (with_reducible repeat (first|apply Kd.S_alloc|apply Kd.S_drewN|apply Kd.S_drew));exact (Kd.S_mono (Kd.S_far (p:=⟨gb203,2,none⟩) (Kd.S_far (p:=⟨gb203,1,none⟩) (Kd.S_far (p:=⟨gb203,0,none⟩) (Kd.S_types HO192.out BK203.out (by decide)) (fun _ hk => hk.2) (.string t195)) (fun _ hk => hk.2) (.slice Ao15 t196.length co15)) (fun _ hk => hk.2) (.slice Ao16 t199.length co16)) (fun _ h_ => h_.1))) hb);replace HO198:=zh (Kd.S_below (by (with_reducible repeat (first|apply Kd.S_alloc|apply Kd.S_drewN|apply Kd.S_drew));exact (Kd.S_mono (Kd.S_far (p:=⟨gb203,2,none⟩) (Kd.S_far (p:=⟨gb203,1,none⟩) (Kd.S_far (p:=⟨gb203,0,none⟩) (Kd.S_types HO198.out BK203.out (by decide)) (fun _ hk => hk.2) (.string t195)) (fun _ hk => hk.2) (.slice Ao15 t196.length co15)) (fun _ hk => hk.2) (.slice Ao16 t199.length co16)) (fun _ h_ => h_.1))) hb);replace HO201:=zh (Kd.S_below (by (with_reducible repeat (first|apply Kd.S_alloc|apply Kd.S_drewN|apply Kd.S_drew));exact (Kd.S_mono (Kd.S_far (p:=⟨gb203,2,none⟩) (Kd.S_far (p:=⟨gb203,1,none⟩) (Kd.S_far (p:=⟨gb203,0,none⟩) (Kd.S_types HO201.out BK203.out (by decide)) (fun _ hk => hk.2) (.string t195)) (fun _ hk => hk.2) (.slice Ao15 t196.length co15)) (fun _ hk => hk.2) (.slice Ao16 t199.length co16)) (fun _ h_ => h_.1))) hb);replace BK194:=zh (zD (g:=gb194) (o:=.cells #[.string t186,.slice Ao9 t187.length co9,.slice Ao10 t190.length co10] 25 (0,0)) (by (with_reducible repeat (first|refine ze ?_ _|refine zf ?_|refine zg ?_ _));refine zQ ?_ NB194_203.out _;(with_reducible repeat (first|refine ze ?_ _|refine zf ?_|refine zg ?_ _));refine zQ ?_ NB194_203.out _;(with_reducible repeat (first|refine ze ?_ _|refine zf ?_|refine zg ?_ _));refine zQ ?_ NB194_203.out _;(with_reducible repeat (first|refine ze ?_ _|refine zf ?_|refine zg ?_ _));exact BK194.out) hb);replace BK203:=zh (zD (g:=gb203) (o:=.cells #[.string t195,.slice Ao15 t196.length co15,.slice Ao16 t199.length co16] 25 (0,0)) (by (with_reducible repeat (first|refine ze ?_ _|refine zf ?_|refine zg ?_ _));refine zK (cs:=#[.string t195,.slice Ao15 t196.length co15,.slice none 0 0]) ?_ 2 _ rfl;(with_reducible repeat (first|refine ze ?_ _|refine zf ?_|refine zg ?_ _));refine zK (cs:=#[.string t195,.slice none 0 0,.slice none 0 0]) ?_ 1 _ rfl;(with_reducible repeat (first|refine ze ?_ _|refine zf ?_|refine zg ?_ _));refine zK (cs:=#[.string (⟨#[]⟩ : ByteArray),.slice none 0 0,.slice none 0 0]) ?_ 0 _ rfl;(with_reducible repeat (first|refine ze ?_ _|refine zf ?_|refine zg ?_ _));exact BK203.out) hb);replace HB:=zh (zC (by repeat (with_reducible first|exact HB.out|apply za|apply zb|apply zc|refine zd ?_ GE194.out|refine zd ?_ GE203.out)) hb);(try clear hb);(try clear hb2);(try clear hk);(try clear hi)))
  go_meet
  case rel => exact ⟨_,(true),(by first|rfl|(simp;done)|(simp [*];done)),H',⟨by first|omega|exact yc _⟩,⟨by (with_reducible repeat (first|apply Kd.S_alloc|apply Kd.S_drewN|apply Kd.S_drew));exact Kd.S_mono HO189.out (fun _ hk => hk.2)⟩,⟨by (with_reducible repeat (first|apply Kd.S_alloc|apply Kd.S_drewN|apply Kd.S_drew));exact Kd.S_mono HO192.out (fun _ hk => hk.2)⟩,⟨by (with_reducible repeat (first|apply Kd.S_alloc|apply Kd.S_drewN|apply Kd.S_drew));exact Kd.S_mono HO198.out (fun _ hk => hk.2)⟩,⟨by (with_reducible repeat (first|apply Kd.S_alloc|apply Kd.S_drewN|apply Kd.S_drew));exact Kd.S_mono HO201.out (fun _ hk => hk.2)⟩,⟨by (with_reducible repeat (first|refine ze ?_ _|refine zf ?_|refine zg ?_ _));exact BK194.out⟩,⟨by (with_reducible repeat (first|refine ze ?_ _|refine zf ?_|refine zg ?_ _));exact BK203.out⟩,⟨by repeat (with_reducible first|exact HB.out|apply za|apply zb|apply zc|refine zd ?_ GE194.out|refine zd ?_ GE203.out)⟩⟩
 case rest =>
  clear HC5
  try clear c1
  try clear c2
  try clear c2b0
  try clear c2b1
  try clear p2
  try clear c3
  try clear c4
  try clear c5
  try clear c6
  try clear c13
  try clear c18
  try clear c19
  try clear c23
  try clear hcz14_0
  try clear hcz14_1
  try clear hcz14_2
  try clear hcz20_0
  try clear hcz20_1
  try clear hcz20_2
  try clear hcz21_0
  try clear hcz21_1
  try clear hcz21_2
  try clear hcz24_0
  try clear hcz24_1
  try clear hcz24_2
  try clear hcz25_0
  try clear hcz25_1
  try clear hcz25_2
  try clear hcz8_0
  try clear hcz8_1
  try clear hcz8_2
  try clear hfz14_0
  try clear hfz14_1
  try clear hfz14_2
  try clear hfz20_0
  try clear hfz20_1
  try clear hfz20_2
  try clear hfz21_0
  try clear hfz21_1
  try clear hfz21_2
  try clear hfz24_0
  try clear hfz24_1
  try clear hfz24_2
  try clear hfz25_0
  try clear hfz25_1
  try clear hfz25_2
  try clear hfz8_0
  try clear hfz8_1
  try clear hfz8_2
  obtain ⟨kq,x32_4,rfl,HA,HJ4,HO_195001,HO_195002,HO_204001,HO_204002,BK194,BK203,HB⟩:=hcut
  cases kq with
  | zero => exact absurd HA.out (by simp [laws_FnExactNewColl.j0])
  | succ kj4 =>
   have H:=HA.out;clear HA;simp only [laws_FnExactNewColl.j0] at H
   by_cases c27 : x32_4=true
   ·
    subst c27
    have H1 : (some false)=some r:=by rw [if_pos rfl] at H;exact H
    clear H;have H:=H1;clear H1;obtain rfl:=zS H
    go_wp2
    go_ret
    exact ⟨by first|rfl|(simp [yq,yr] <;> rfl)|(simp [*,yq,yr] <;> rfl),by repeat (with_reducible first|exact HB.out|apply za|apply zb|apply zc|refine zd ?_ GE194.out|refine zd ?_ GE203.out)⟩
   replace c27:=zZ.mpr c27;subst c27;have H1 : ((laws_markColl.f kj4 t195 t196 t199 1).bind fun t205 => ((laws_heldColl.f kj4 t195 t196 t199 1).bind fun t206 => (if t206<0 then (some false) else (if t206=t205 then ((impl_NewColl.f kj4 a0).bind fun bt207 => ((laws_eqColl.f kj4 bt207.1 bt207.2.1 bt207.2.2.1 t186 t187 t190).bind fun t216 => (if t216=true then (laws_FnExactNewColl.j1 kj4 t205 (bt207.2.2.2 != t193) t195 t196 t199) else (laws_FnExactNewColl.j1 kj4 t205 true t195 t196 t199)))) else (some false)))))=some r:=by rw [if_neg (show ¬ (false=true) by decide)] at H;exact H
   clear H;have H:=H1;clear H1;replace H:=zR.mp H;obtain ⟨t205,A280,H⟩:=H;replace H : ((laws_heldColl.f kj4 t195 t196 t199 1).bind fun t206 => (if t206<0 then (some false) else (if t206=t205 then ((impl_NewColl.f kj4 a0).bind fun bt207 => ((laws_eqColl.f kj4 bt207.1 bt207.2.1 bt207.2.2.1 t186 t187 t190).bind fun t216 => (if t216=true then (laws_FnExactNewColl.j1 kj4 t205 (bt207.2.2.2 != t193) t195 t196 t199) else (laws_FnExactNewColl.j1 kj4 t205 true t195 t196 t199)))) else (some false))))=some r:=H;have A28:=zh A280;clear A280;replace H:=zR.mp H;obtain ⟨t206,A290,H⟩:=H;replace H : (if t206<0 then (some false) else (if t206=t205 then ((impl_NewColl.f kj4 a0).bind fun bt207 => ((laws_eqColl.f kj4 bt207.1 bt207.2.1 bt207.2.2.1 t186 t187 t190).bind fun t216 => (if t216=true then (laws_FnExactNewColl.j1 kj4 t205 (bt207.2.2.2 != t193) t195 t196 t199) else (laws_FnExactNewColl.j1 kj4 t205 true t195 t196 t199)))) else (some false)))=some r:=H;have A29:=zh A290;clear A290
   by_cases c30 : t206<0
   ·
    rw [if_pos c30] at H
    have c30b0 : decide (t206<0)=true:=decide_eq_true c30;clear c30;obtain rfl:=zS H;have hnb31:=NB203_194.out;have hnc31:=NB194_203.out;have hcz32_0 : wc.cell? ⟨gb203,0,none⟩=some (.string t195):=(zz BK203.out 0).trans rfl;have hcz32_1 : wc.cell? ⟨gb203,1,none⟩=some (.slice Ao15 t196.length co15):=(zz BK203.out 1).trans rfl;have hcz32_2 : wc.cell? ⟨gb203,2,none⟩=some (.slice Ao16 t199.length co16):=(zz BK203.out 2).trans rfl;have hfz32_0:=zA BK203.out 0;have hfz32_1:=zA BK203.out 1;have hfz32_2:=zA BK203.out 2
    go_wp2_with (first|((with_reducible refine zI (f:=7) rfl ?_);refine yg (some 35) rfl rfl Try.func7 (by kernel_rfl) rfl #[.agg #[.string t195,.slice Ao15 t196.length co15,.slice Ao16 t199.length co16],.int .i64 1] rfl (by (try simp only [zt,zu,zv]);first|done|rfl|(simp only [zw,zx];rfl)|(simp only [yo,yp,zT,zU];rfl)) ?_;(with_reducible refine (laws_markColl.calls kj4  t195 _ _ t196 _ _ t199 1 t205 _ ?side1 ?side2 ?side3 ?side4 A28.out).mono ?_);(case side1 => repeat (first|exact (Kd.S_reads' HO_204001.out).2.2|(with_reducible refine Kd.C_alloc ?_ _)|(with_reducible refine Kd.C_drewN ?_ _)|(with_reducible refine Kd.C_drew ?_)));(case side2 => exact (Kd.S_reads' HO_204001.out).2.1);(case side3 => repeat (first|exact (Kd.S_reads' HO_204002.out).2.2|(with_reducible refine Kd.C_alloc ?_ _)|(with_reducible refine Kd.C_drewN ?_ _)|(with_reducible refine Kd.C_drew ?_)));(case side4 => exact (Kd.S_reads' HO_204002.out).2.1);rintro e w33 ⟨rfl,hb⟩;refine ⟨_,rfl,?_⟩;replace HO_195001:=zh (Kd.S_below (by (with_reducible repeat (first|apply Kd.S_alloc|apply Kd.S_drewN|apply Kd.S_drew));exact HO_195001.out) hb);replace HO_195002:=zh (Kd.S_below (by (with_reducible repeat (first|apply Kd.S_alloc|apply Kd.S_drewN|apply Kd.S_drew));exact HO_195002.out) hb);replace HO_204001:=zh (Kd.S_below (by (with_reducible repeat (first|apply Kd.S_alloc|apply Kd.S_drewN|apply Kd.S_drew));exact HO_204001.out) hb);replace HO_204002:=zh (Kd.S_below (by (with_reducible repeat (first|apply Kd.S_alloc|apply Kd.S_drewN|apply Kd.S_drew));exact HO_204002.out) hb);replace BK194:=zh (zD (g:=gb194) (o:=.cells #[.string t186,.slice Ao9 t187.length co9,.slice Ao10 t190.length co10] 25 (0,0)) (by (with_reducible repeat (first|refine ze ?_ _|refine zf ?_|refine zg ?_ _));exact BK194.out) hb);replace BK203:=zh (zD (g:=gb203) (o:=.cells #[.string t195,.slice Ao15 t196.length co15,.slice Ao16 t199.length co16] 25 (0,0)) (by (with_reducible repeat (first|refine ze ?_ _|refine zf ?_|refine zg ?_ _));exact BK203.out) hb);replace HB:=zh (zC (by repeat (with_reducible first|exact HB.out|apply za|apply zb|apply zc|refine zd ?_ GE194.out|refine zd ?_ GE203.out)) hb);(try clear hb);(try clear hb2);(try clear hk);(try clear hi);have hcz34_0 : w33.cell? ⟨gb203,0,none⟩=some (.string t195):=(zz BK203.out 0).trans rfl;have hcz34_1 : w33.cell? ⟨gb203,1,none⟩=some (.slice Ao15 t196.length co15):=(zz BK203.out 1).trans rfl;have hcz34_2 : w33.cell? ⟨gb203,2,none⟩=some (.slice Ao16 t199.length co16):=(zz BK203.out 2).trans rfl;have hfz34_0:=zA BK203.out 0;have hfz34_1:=zA BK203.out 1;have hfz34_2:=zA BK203.out 2)|((with_reducible refine zI (f:=8) rfl ?_);refine yg (some 38) rfl rfl Try.func8 (by kernel_rfl) rfl #[.agg #[.string t195,.slice Ao15 t196.length co15,.slice Ao16 t199.length co16],.int .i64 1] rfl (by (try simp only [zt,zu,zv]);first|done|rfl|(simp only [zw,zx];rfl)|(simp only [yo,yp,zT,zU];rfl)) ?_;(with_reducible refine (laws_heldColl.calls kj4  t195 _ _ t196 _ _ t199 1 t206 _ ?side1 ?side2 ?side3 ?side4 A29.out).mono ?_);(case side1 => repeat (first|exact (Kd.S_reads' HO_204001.out).2.2|(with_reducible refine Kd.C_alloc ?_ _)|(with_reducible refine Kd.C_drewN ?_ _)|(with_reducible refine Kd.C_drew ?_)));(case side2 => exact (Kd.S_reads' HO_204001.out).2.1);(case side3 => repeat (first|exact (Kd.S_reads' HO_204002.out).2.2|(with_reducible refine Kd.C_alloc ?_ _)|(with_reducible refine Kd.C_drewN ?_ _)|(with_reducible refine Kd.C_drew ?_)));(case side4 => exact (Kd.S_reads' HO_204002.out).2.1);rintro e w35 ⟨rfl,hb⟩;refine ⟨_,rfl,?_⟩;replace HO_195001:=zh (Kd.S_below (by (with_reducible repeat (first|apply Kd.S_alloc|apply Kd.S_drewN|apply Kd.S_drew));exact HO_195001.out) hb);replace HO_195002:=zh (Kd.S_below (by (with_reducible repeat (first|apply Kd.S_alloc|apply Kd.S_drewN|apply Kd.S_drew));exact HO_195002.out) hb);replace HO_204001:=zh (Kd.S_below (by (with_reducible repeat (first|apply Kd.S_alloc|apply Kd.S_drewN|apply Kd.S_drew));exact HO_204001.out) hb);replace HO_204002:=zh (Kd.S_below (by (with_reducible repeat (first|apply Kd.S_alloc|apply Kd.S_drewN|apply Kd.S_drew));exact HO_204002.out) hb);replace BK194:=zh (zD (g:=gb194) (o:=.cells #[.string t186,.slice Ao9 t187.length co9,.slice Ao10 t190.length co10] 25 (0,0)) (by (with_reducible repeat (first|refine ze ?_ _|refine zf ?_|refine zg ?_ _));exact BK194.out) hb);replace BK203:=zh (zD (g:=gb203) (o:=.cells #[.string t195,.slice Ao15 t196.length co15,.slice Ao16 t199.length co16] 25 (0,0)) (by (with_reducible repeat (first|refine ze ?_ _|refine zf ?_|refine zg ?_ _));exact BK203.out) hb);replace HB:=zh (zC (by repeat (with_reducible first|exact HB.out|apply za|apply zb|apply zc|refine zd ?_ GE194.out|refine zd ?_ GE203.out)) hb);(try clear hb);(try clear hb2);(try clear hk);(try clear hi)))
    go_ret
    exact ⟨by first|rfl|(simp [yq,yr] <;> rfl)|(simp [*,yq,yr] <;> rfl),by repeat (with_reducible first|exact HB.out|apply za|apply zb|apply zc|refine zd ?_ GE194.out|refine zd ?_ GE203.out)⟩
   rw [if_neg c30] at H;have c30b0 : decide (t206<0)=false:=decide_eq_false c30;clear c30
   by_cases c36 : t206=t205
   ·
    rw [if_pos c36] at H
    have c36b0 : (t206 == t205)=true:=zY.mpr c36;have c36b1 : (t206 != t205)=false:=zV.mpr c36;clear c36;replace H:=zR.mp H;obtain ⟨⟨t207,t208,t211,t214⟩,A370,H⟩:=H;replace H : ((laws_eqColl.f kj4 t207 t208 t211 t186 t187 t190).bind fun t216 => (if t216=true then (laws_FnExactNewColl.j1 kj4 t205 (t214 != t193) t195 t196 t199) else (laws_FnExactNewColl.j1 kj4 t205 true t195 t196 t199)))=some r:=H;have A37:=zh A370;clear A370;have HC38:=zh H;clear H;have hnb39:=NB203_194.out;have hnc39:=NB194_203.out;have hcz40_0 : wc.cell? ⟨gb203,0,none⟩=some (.string t195):=(zz BK203.out 0).trans rfl;have hcz40_1 : wc.cell? ⟨gb203,1,none⟩=some (.slice Ao15 t196.length co15):=(zz BK203.out 1).trans rfl;have hcz40_2 : wc.cell? ⟨gb203,2,none⟩=some (.slice Ao16 t199.length co16):=(zz BK203.out 2).trans rfl;have hfz40_0:=zA BK203.out 0;have hfz40_1:=zA BK203.out 1;have hfz40_2:=zA BK203.out 2
    go_upto_region 16 with (first|((with_reducible refine zI (f:=7) rfl ?_);refine yg (some 35) rfl rfl Try.func7 (by kernel_rfl) rfl #[.agg #[.string t195,.slice Ao15 t196.length co15,.slice Ao16 t199.length co16],.int .i64 1] rfl (by (try simp only [zt,zu,zv]);first|done|rfl|(simp only [zw,zx];rfl)|(simp only [yo,yp,zT,zU];rfl)) ?_;(with_reducible refine (laws_markColl.calls kj4  t195 _ _ t196 _ _ t199 1 t205 _ ?side1 ?side2 ?side3 ?side4 A28.out).mono ?_);(case side1 => repeat (first|exact (Kd.S_reads' HO_204001.out).2.2|(with_reducible refine Kd.C_alloc ?_ _)|(with_reducible refine Kd.C_drewN ?_ _)|(with_reducible refine Kd.C_drew ?_)));(case side2 => exact (Kd.S_reads' HO_204001.out).2.1);(case side3 => repeat (first|exact (Kd.S_reads' HO_204002.out).2.2|(with_reducible refine Kd.C_alloc ?_ _)|(with_reducible refine Kd.C_drewN ?_ _)|(with_reducible refine Kd.C_drew ?_)));(case side4 => exact (Kd.S_reads' HO_204002.out).2.1);rintro e w41 ⟨rfl,hb⟩;refine ⟨_,rfl,?_⟩;replace HO_195001:=zh (Kd.S_below (by (with_reducible repeat (first|apply Kd.S_alloc|apply Kd.S_drewN|apply Kd.S_drew));exact HO_195001.out) hb);replace HO_195002:=zh (Kd.S_below (by (with_reducible repeat (first|apply Kd.S_alloc|apply Kd.S_drewN|apply Kd.S_drew));exact HO_195002.out) hb);replace HO_204001:=zh (Kd.S_below (by (with_reducible repeat (first|apply Kd.S_alloc|apply Kd.S_drewN|apply Kd.S_drew));exact HO_204001.out) hb);replace HO_204002:=zh (Kd.S_below (by (with_reducible repeat (first|apply Kd.S_alloc|apply Kd.S_drewN|apply Kd.S_drew));exact HO_204002.out) hb);replace BK194:=zh (zD (g:=gb194) (o:=.cells #[.string t186,.slice Ao9 t187.length co9,.slice Ao10 t190.length co10] 25 (0,0)) (by (with_reducible repeat (first|refine ze ?_ _|refine zf ?_|refine zg ?_ _));exact BK194.out) hb);replace BK203:=zh (zD (g:=gb203) (o:=.cells #[.string t195,.slice Ao15 t196.length co15,.slice Ao16 t199.length co16] 25 (0,0)) (by (with_reducible repeat (first|refine ze ?_ _|refine zf ?_|refine zg ?_ _));exact BK203.out) hb);replace HB:=zh (zC (by repeat (with_reducible first|exact HB.out|apply za|apply zb|apply zc|refine zd ?_ GE194.out|refine zd ?_ GE203.out)) hb);(try clear hb);(try clear hb2);(try clear hk);(try clear hi);have hcz42_0 : w41.cell? ⟨gb203,0,none⟩=some (.string t195):=(zz BK203.out 0).trans rfl;have hcz42_1 : w41.cell? ⟨gb203,1,none⟩=some (.slice Ao15 t196.length co15):=(zz BK203.out 1).trans rfl;have hcz42_2 : w41.cell? ⟨gb203,2,none⟩=some (.slice Ao16 t199.length co16):=(zz BK203.out 2).trans rfl;have hfz42_0:=zA BK203.out 0;have hfz42_1:=zA BK203.out 1;have hfz42_2:=zA BK203.out 2)|((with_reducible refine zI (f:=8) rfl ?_);refine yg (some 38) rfl rfl Try.func8 (by kernel_rfl) rfl #[.agg #[.string t195,.slice Ao15 t196.length co15,.slice Ao16 t199.length co16],.int .i64 1] rfl (by (try simp only [zt,zu,zv]);first|done|rfl|(simp only [zw,zx];rfl)|(simp only [yo,yp,zT,zU];rfl)) ?_;(with_reducible refine (laws_heldColl.calls kj4  t195 _ _ t196 _ _ t199 1 t206 _ ?side1 ?side2 ?side3 ?side4 A29.out).mono ?_);(case side1 => repeat (first|exact (Kd.S_reads' HO_204001.out).2.2|(with_reducible refine Kd.C_alloc ?_ _)|(with_reducible refine Kd.C_drewN ?_ _)|(with_reducible refine Kd.C_drew ?_)));(case side2 => exact (Kd.S_reads' HO_204001.out).2.1);(case side3 => repeat (first|exact (Kd.S_reads' HO_204002.out).2.2|(with_reducible refine Kd.C_alloc ?_ _)|(with_reducible refine Kd.C_drewN ?_ _)|(with_reducible refine Kd.C_drew ?_)));(case side4 => exact (Kd.S_reads' HO_204002.out).2.1);rintro e w43 ⟨rfl,hb⟩;refine ⟨_,rfl,?_⟩;replace HO_195001:=zh (Kd.S_below (by (with_reducible repeat (first|apply Kd.S_alloc|apply Kd.S_drewN|apply Kd.S_drew));exact HO_195001.out) hb);replace HO_195002:=zh (Kd.S_below (by (with_reducible repeat (first|apply Kd.S_alloc|apply Kd.S_drewN|apply Kd.S_drew));exact HO_195002.out) hb);replace HO_204001:=zh (Kd.S_below (by (with_reducible repeat (first|apply Kd.S_alloc|apply Kd.S_drewN|apply Kd.S_drew));exact HO_204001.out) hb);replace HO_204002:=zh (Kd.S_below (by (with_reducible repeat (first|apply Kd.S_alloc|apply Kd.S_drewN|apply Kd.S_drew));exact HO_204002.out) hb);replace BK194:=zh (zD (g:=gb194) (o:=.cells #[.string t186,.slice Ao9 t187.length co9,.slice Ao10 t190.length co10] 25 (0,0)) (by (with_reducible repeat (first|refine ze ?_ _|refine zf ?_|refine zg ?_ _));exact BK194.out) hb);replace BK203:=zh (zD (g:=gb203) (o:=.cells #[.string t195,.slice Ao15 t196.length co15,.slice Ao16 t199.length co16] 25 (0,0)) (by (with_reducible repeat (first|refine ze ?_ _|refine zf ?_|refine zg ?_ _));exact BK203.out) hb);replace HB:=zh (zC (by repeat (with_reducible first|exact HB.out|apply za|apply zb|apply zc|refine zd ?_ GE194.out|refine zd ?_ GE203.out)) hb);(try clear hb);(try clear hb2);(try clear hk);(try clear hi))|((with_reducible refine zI (f:=5) rfl ?_);refine yg (some 46) rfl rfl Try.func5 (by kernel_rfl) rfl #[.string a0] rfl (by (try simp only [zt,zu,zv]);first|done|rfl|(simp only [zw,zx];rfl)|(simp only [yo,yp,zT,zU];rfl)) ?_;(with_reducible refine (impl_NewColl.calls kj4  a0 t207 t208 t211 t214 _ A37.out).mono ?_);rintro e w44 ⟨v209,v212,rfl,ho0,ho1,hb⟩;refine ⟨_,rfl,?_⟩;have HO210:=zh (Kd.S_lower (Kd.S_new' (Kd.S_new' ho0 (Kd.S_lt (by (with_reducible repeat (first|apply Kd.S_alloc|apply Kd.S_drewN|apply Kd.S_drew));exact HO_195001.out))) (Kd.S_lt (by (with_reducible repeat (first|apply Kd.S_alloc|apply Kd.S_drewN|apply Kd.S_drew));exact HO_204001.out))) (zB (by repeat (with_reducible first|exact HB.out|apply za|apply zb|apply zc|refine zd ?_ GE194.out|refine zd ?_ GE203.out))));replace HO_195001:=zh (Kd.S_elder' (by (with_reducible repeat (first|apply Kd.S_alloc|apply Kd.S_drewN|apply Kd.S_drew));exact HO_195001.out) (Kd.S_base ho0) hb);replace HO_204001:=zh (Kd.S_elder' (by (with_reducible repeat (first|apply Kd.S_alloc|apply Kd.S_drewN|apply Kd.S_drew));exact HO_204001.out) (Kd.S_base ho0) hb);have HO213:=zh (Kd.S_lower (Kd.S_new' (Kd.S_new' ho1 (Kd.S_lt (by (with_reducible repeat (first|apply Kd.S_alloc|apply Kd.S_drewN|apply Kd.S_drew));exact HO_195002.out))) (Kd.S_lt (by (with_reducible repeat (first|apply Kd.S_alloc|apply Kd.S_drewN|apply Kd.S_drew));exact HO_204002.out))) (zB (by repeat (with_reducible first|exact HB.out|apply za|apply zb|apply zc|refine zd ?_ GE194.out|refine zd ?_ GE203.out))));replace HO_195002:=zh (Kd.S_elder' (by (with_reducible repeat (first|apply Kd.S_alloc|apply Kd.S_drewN|apply Kd.S_drew));exact HO_195002.out) (Kd.S_base ho1) hb);replace HO_204002:=zh (Kd.S_elder' (by (with_reducible repeat (first|apply Kd.S_alloc|apply Kd.S_drewN|apply Kd.S_drew));exact HO_204002.out) (Kd.S_base ho1) hb);replace BK194:=zh (zD (g:=gb194) (o:=.cells #[.string t186,.slice Ao9 t187.length co9,.slice Ao10 t190.length co10] 25 (0,0)) (by (with_reducible repeat (first|refine ze ?_ _|refine zf ?_|refine zg ?_ _));exact BK194.out) hb);replace BK203:=zh (zD (g:=gb203) (o:=.cells #[.string t195,.slice Ao15 t196.length co15,.slice Ao16 t199.length co16] 25 (0,0)) (by (with_reducible repeat (first|refine ze ?_ _|refine zf ?_|refine zg ?_ _));exact BK203.out) hb);replace HB:=zh (zC (by repeat (with_reducible first|exact HB.out|apply za|apply zb|apply zc|refine zd ?_ GE194.out|refine zd ?_ GE203.out)) hb);(try clear hb);(try clear hb2);(try clear hk);(try clear hi);(try clear ho0);(try clear ho1))|((with_reducible refine zJ (N:=9) rfl ?_);refine zH ?hg (N:=9) ?hd (cs:=#[.string (⟨#[]⟩ : ByteArray),.slice none 0 0,.slice none 0 0]) (t:=25) ?hr ?_;(case hd => rfl);(case hg => rfl);(case hr => first|(go_simp;done)|(go_simp;rfl));intro gb215 hg w45 hbox hb;replace HO_195001:=zh (Kd.S_below (by (with_reducible repeat (first|apply Kd.S_alloc|apply Kd.S_drewN|apply Kd.S_drew));exact HO_195001.out) hb);replace HO_195002:=zh (Kd.S_below (by (with_reducible repeat (first|apply Kd.S_alloc|apply Kd.S_drewN|apply Kd.S_drew));exact HO_195002.out) hb);replace HO_204001:=zh (Kd.S_below (by (with_reducible repeat (first|apply Kd.S_alloc|apply Kd.S_drewN|apply Kd.S_drew));exact HO_204001.out) hb);replace HO_204002:=zh (Kd.S_below (by (with_reducible repeat (first|apply Kd.S_alloc|apply Kd.S_drewN|apply Kd.S_drew));exact HO_204002.out) hb);replace HO210:=zh (Kd.S_below (by (with_reducible repeat (first|apply Kd.S_alloc|apply Kd.S_drewN|apply Kd.S_drew));exact HO210.out) hb);replace HO213:=zh (Kd.S_below (by (with_reducible repeat (first|apply Kd.S_alloc|apply Kd.S_drewN|apply Kd.S_drew));exact HO213.out) hb);have BK215:=zh (hbox);have GW215:=zh ((by rw [hg];exact (zB (by repeat (with_reducible first|exact HB.out|apply za|apply zb|apply zc|refine zd ?_ GE194.out|refine zd ?_ GE203.out))) : w.heap.size≤gb215));have GE215:=zh ((by rw [hg];exact (zB (by repeat (with_reducible first|exact HB.out|apply za|apply zb|apply zc|refine zd ?_ GE194.out|refine zd ?_ GE203.out))) : w.heap.size≤gb215));replace HB:=zh (zC (by repeat (with_reducible first|exact HB.out|apply za|apply zb|apply zc|refine zd ?_ GE194.out|refine zd ?_ GE203.out)) hb);have NB194_215:=zh ((by rw [hg];exact ya (yf (g:=gb194) (o:=.cells #[.string t186,.slice Ao9 t187.length co9,.slice Ao10 t190.length co10] 25 (0,0)) (by (with_reducible repeat (first|refine ze ?_ _|refine zf ?_|refine zg ?_ _));exact BK194.out)) : gb194≠gb215));have NB215_194:=zh ((by rw [hg];exact yb (yf (g:=gb194) (o:=.cells #[.string t186,.slice Ao9 t187.length co9,.slice Ao10 t190.length co10] 25 (0,0)) (by (with_reducible repeat (first|refine ze ?_ _|refine zf ?_|refine zg ?_ _));exact BK194.out)) : gb215≠gb194));replace BK194:=zh (zD (g:=gb194) (o:=.cells #[.string t186,.slice Ao9 t187.length co9,.slice Ao10 t190.length co10] 25 (0,0)) (by (with_reducible repeat (first|refine ze ?_ _|refine zf ?_|refine zg ?_ _));exact BK194.out) hb);have NB203_215:=zh ((by rw [hg];exact ya (yf (g:=gb203) (o:=.cells #[.string t195,.slice Ao15 t196.length co15,.slice Ao16 t199.length co16] 25 (0,0)) (by (with_reducible repeat (first|refine ze ?_ _|refine zf ?_|refine zg ?_ _));exact BK203.out)) : gb203≠gb215));have NB215_203:=zh ((by rw [hg];exact yb (yf (g:=gb203) (o:=.cells #[.string t195,.slice Ao15 t196.length co15,.slice Ao16 t199.length co16] 25 (0,0)) (by (with_reducible repeat (first|refine ze ?_ _|refine zf ?_|refine zg ?_ _));exact BK203.out)) : gb215≠gb203));replace BK203:=zh (zD (g:=gb203) (o:=.cells #[.string t195,.slice Ao15 t196.length co15,.slice Ao16 t199.length co16] 25 (0,0)) (by (with_reducible repeat (first|refine ze ?_ _|refine zf ?_|refine zg ?_ _));exact BK203.out) hb);clear hb hbox hg;have hnb46:=NB215_194.out;have hnc46:=NB194_215.out;have hnb47:=NB215_203.out;have hnc47:=NB203_215.out;have hcz48_0 : w45.cell? ⟨gb215,0,none⟩=some (.string (⟨#[]⟩ : ByteArray)):=(zz BK215.out 0).trans rfl;have hcz48_1 : w45.cell? ⟨gb215,1,none⟩=some (.slice none 0 0):=(zz BK215.out 1).trans rfl;have hcz48_2 : w45.cell? ⟨gb215,2,none⟩=some (.slice none 0 0):=(zz BK215.out 2).trans rfl;have hfz48_0:=zA BK215.out 0;have hfz48_1:=zA BK215.out 1;have hfz48_2:=zA BK215.out 2;obtain ⟨Ao49,co49,eo49⟩:=Kd.S_slice HO210.out;subst eo49;obtain ⟨Ao50,co50,eo50⟩:=Kd.S_slice HO213.out;subst eo50))
    (try simp only [Act.put,zi,zj,zk])
    go_cut [57] (fun v57 wc => ∃ (kq : Nat) (x57_37 : Bool),v57 = .bool x57_37∧Aside0 (laws_FnExactNewColl.j1 kq t205 x57_37 t195 t196 t199=some r)∧Aside0 (kq≤kj4)∧Aside0 (Kd.S k42 42 wc w.heap.size (fun k_ => some k_≠((.slice Ao15 t196.length co15) : Value).ownBlock∧some k_≠((.slice Ao49 t208.length co49) : Value).ownBlock) (.slice Ao9 t187.length co9) t187)∧Aside0 (Kd.S k46 46 wc w.heap.size (fun k_ => some k_≠((.slice Ao16 t199.length co16) : Value).ownBlock∧some k_≠((.slice Ao50 t211.length co50) : Value).ownBlock) (.slice Ao10 t190.length co10) t190)∧Aside0 (Kd.S k42 42 wc w.heap.size (fun k_ => some k_≠((.slice Ao9 t187.length co9) : Value).ownBlock∧some k_≠((.slice Ao49 t208.length co49) : Value).ownBlock) (.slice Ao15 t196.length co15) t196)∧Aside0 (Kd.S k46 46 wc w.heap.size (fun k_ => some k_≠((.slice Ao10 t190.length co10) : Value).ownBlock∧some k_≠((.slice Ao50 t211.length co50) : Value).ownBlock) (.slice Ao16 t199.length co16) t199)∧Aside0 (Kd.S k42 42 wc w.heap.size (fun k_ => some k_≠((.slice Ao9 t187.length co9) : Value).ownBlock∧some k_≠((.slice Ao15 t196.length co15) : Value).ownBlock) (.slice Ao49 t208.length co49) t208)∧Aside0 (Kd.S k46 46 wc w.heap.size (fun k_ => some k_≠((.slice Ao10 t190.length co10) : Value).ownBlock∧some k_≠((.slice Ao16 t199.length co16) : Value).ownBlock) (.slice Ao50 t211.length co50) t211)∧Aside0 (wc.heap[gb194]? = some (.cells #[.string t186,(.slice Ao9 t187.length co9),(.slice Ao10 t190.length co10)] 25 (0,0)))∧Aside0 (wc.heap[gb203]? = some (.cells #[.string t195,(.slice Ao15 t196.length co15),(.slice Ao16 t199.length co16)] 25 (0,0)))∧Aside0 (wc.heap[gb215]? = some (.cells #[.string t207,(.slice Ao49 t208.length co49),(.slice Ao50 t211.length co50)] 25 (0,0)))∧Aside0 (Below w.heap.size w wc))
    case first =>
     have H:=HC38.out;clear HC38;replace H:=zR.mp H;obtain ⟨t216,A510,H⟩:=H;replace H : (if t216=true then (laws_FnExactNewColl.j1 kj4 t205 (t214 != t193) t195 t196 t199) else (laws_FnExactNewColl.j1 kj4 t205 true t195 t196 t199))=some r:=H;have A51:=zh A510;clear A510
     by_cases c52 : t216=true
     ·
      subst c52
      have H1 : (laws_FnExactNewColl.j1 kj4 t205 (t214 != t193) t195 t196 t199)=some r:=by rw [if_pos rfl] at H;exact H
      clear H;have H:=H1;clear H1;have H':=zh H;clear H;have hnb53:=NB215_194.out;have hnc53:=NB194_215.out;have hnb54:=NB215_203.out;have hnc54:=NB203_215.out;have hcz55_0 : w45.cell? ⟨gb215,0,none⟩=some (.string (⟨#[]⟩ : ByteArray)):=(zz BK215.out 0).trans rfl;have hcz55_1 : w45.cell? ⟨gb215,1,none⟩=some (.slice none 0 0):=(zz BK215.out 1).trans rfl;have hcz55_2 : w45.cell? ⟨gb215,2,none⟩=some (.slice none 0 0):=(zz BK215.out 2).trans rfl;have hfz55_0:=zA BK215.out 0;have hfz55_1:=zA BK215.out 1;have hfz55_2:=zA BK215.out 2;have hnb56:=NB194_203.out;have hnc56:=NB203_194.out;have hcz57_0 : w45.cell? ⟨gb194,0,none⟩=some (.string t186):=(zz BK194.out 0).trans rfl;have hcz57_1 : w45.cell? ⟨gb194,1,none⟩=some (.slice Ao9 t187.length co9):=(zz BK194.out 1).trans rfl;have hcz57_2 : w45.cell? ⟨gb194,2,none⟩=some (.slice Ao10 t190.length co10):=(zz BK194.out 2).trans rfl;have hfz57_0:=zA BK194.out 0;have hfz57_1:=zA BK194.out 1;have hfz57_2:=zA BK194.out 2
      go_wp2_with (first|((with_reducible refine zI (f:=6) rfl ?_);refine yg (some 51) rfl rfl Try.func6 (by kernel_rfl) rfl #[.agg #[.string t207,.slice Ao49 t208.length co49,.slice Ao50 t211.length co50],.agg #[.string t186,.slice Ao9 t187.length co9,.slice Ao10 t190.length co10]] rfl (by (try simp only [zt,zu,zv]);first|done|rfl|(simp only [zw,zx];rfl)|(simp only [yo,yp,zT,zU];rfl)) ?_;(with_reducible refine (laws_eqColl.calls kj4  t207 _ _ t208 _ _ t211 t186 _ _ t187 _ _ t190 true _ ?side1 ?side2 ?side3 ?side4 ?side5 ?side6 ?side7 ?side8 A51.out).mono ?_);(case side1 => refine (Kd.S_reads' (e:=42) (base:=w.heap.size) (ok:=fun k_ => ((True∧some k_≠(.slice Ao9 t187.length co9 : Value).ownBlock)∧some k_≠(.slice Ao15 t196.length co15 : Value).ownBlock)) (n:=t208.length) (c:=co49) ?_).2.2;exact (by (with_reducible repeat (first|apply Kd.S_alloc|apply Kd.S_drewN|apply Kd.S_drew));exact (Kd.S_mono (Kd.S_far (p:=⟨gb215,2,none⟩) (Kd.S_far (p:=⟨gb215,1,none⟩) (Kd.S_far (p:=⟨gb215,0,none⟩) (Kd.S_types HO210.out BK215.out (by decide)) (fun _ hk => hk.2) (.string t207)) (fun _ hk => hk.2) (.slice Ao49 t208.length co49)) (fun _ hk => hk.2) (.slice Ao50 t211.length co50)) (fun _ h_ => h_.1))));(case side2 => exact (Kd.S_reads' HO210.out).2.1);(case side3 => refine (Kd.S_reads' (e:=46) (base:=w.heap.size) (ok:=fun k_ => ((True∧some k_≠(.slice Ao10 t190.length co10 : Value).ownBlock)∧some k_≠(.slice Ao16 t199.length co16 : Value).ownBlock)) (n:=t211.length) (c:=co50) ?_).2.2;exact (by (with_reducible repeat (first|apply Kd.S_alloc|apply Kd.S_drewN|apply Kd.S_drew));exact (Kd.S_mono (Kd.S_far (p:=⟨gb215,2,none⟩) (Kd.S_far (p:=⟨gb215,1,none⟩) (Kd.S_far (p:=⟨gb215,0,none⟩) (Kd.S_types HO213.out BK215.out (by decide)) (fun _ hk => hk.2) (.string t207)) (fun _ hk => hk.2) (.slice Ao49 t208.length co49)) (fun _ hk => hk.2) (.slice Ao50 t211.length co50)) (fun _ h_ => h_.1))));(case side4 => exact (Kd.S_reads' HO213.out).2.1);(case side5 => refine (Kd.S_reads' (e:=42) (base:=w.heap.size) (ok:=fun k_ => (some k_≠(.slice Ao15 t196.length co15 : Value).ownBlock∧some k_≠(.slice Ao49 t208.length co49 : Value).ownBlock)) (n:=t187.length) (c:=co9) ?_).2.2;exact (by (with_reducible repeat (first|apply Kd.S_alloc|apply Kd.S_drewN|apply Kd.S_drew));exact (Kd.S_mono (Kd.S_far (p:=⟨gb215,2,none⟩) (Kd.S_far (p:=⟨gb215,1,none⟩) (Kd.S_far (p:=⟨gb215,0,none⟩) (Kd.S_types HO_195001.out BK215.out (by decide)) (fun _ hk => hk.2) (.string t207)) (fun _ hk => hk.2) (.slice Ao49 t208.length co49)) (fun _ hk => hk.2) (.slice Ao50 t211.length co50)) (fun _ h_ => h_.1))));(case side6 => exact (Kd.S_reads' HO_195001.out).2.1);(case side7 => refine (Kd.S_reads' (e:=46) (base:=w.heap.size) (ok:=fun k_ => (some k_≠(.slice Ao16 t199.length co16 : Value).ownBlock∧some k_≠(.slice Ao50 t211.length co50 : Value).ownBlock)) (n:=t190.length) (c:=co10) ?_).2.2;exact (by (with_reducible repeat (first|apply Kd.S_alloc|apply Kd.S_drewN|apply Kd.S_drew));exact (Kd.S_mono (Kd.S_far (p:=⟨gb215,2,none⟩) (Kd.S_far (p:=⟨gb215,1,none⟩) (Kd.S_far (p:=⟨gb215,0,none⟩) (Kd.S_types HO_195002.out BK215.out (by decide)) (fun _ hk => hk.2) (.string t207)) (fun _ hk => hk.2) (.slice Ao49 t208.length co49)) (fun _ hk => hk.2) (.slice Ao50 t211.length co50)) (fun _ h_ => h_.1))));(case side8 => exact (Kd.S_reads' HO_195002.out).2.1);rintro e w58 ⟨rfl,hb⟩;refine ⟨_,rfl,?_⟩;replace HO_195001:=zh (Kd.S_below (by (with_reducible repeat (first|apply Kd.S_alloc|apply Kd.S_drewN|apply Kd.S_drew));exact (Kd.S_mono (Kd.S_far (p:=⟨gb215,2,none⟩) (Kd.S_far (p:=⟨gb215,1,none⟩) (Kd.S_far (p:=⟨gb215,0,none⟩) (Kd.S_types HO_195001.out BK215.out (by decide)) (fun _ hk => hk.2) (.string t207)) (fun _ hk => hk.2) (.slice Ao49 t208.length co49)) (fun _ hk => hk.2) (.slice Ao50 t211.length co50)) (fun _ h_ => h_.1))) hb);replace HO_195002:=zh (Kd.S_below (by (with_reducible repeat (first|apply Kd.S_alloc|apply Kd.S_drewN|apply Kd.S_drew));exact (Kd.S_mono (Kd.S_far (p:=⟨gb215,2,none⟩) (Kd.S_far (p:=⟨gb215,1,none⟩) (Kd.S_far (p:=⟨gb215,0,none⟩) (Kd.S_types HO_195002.out BK215.out (by decide)) (fun _ hk => hk.2) (.string t207)) (fun _ hk => hk.2) (.slice Ao49 t208.length co49)) (fun _ hk => hk.2) (.slice Ao50 t211.length co50)) (fun _ h_ => h_.1))) hb);replace HO_204001:=zh (Kd.S_below (by (with_reducible repeat (first|apply Kd.S_alloc|apply Kd.S_drewN|apply Kd.S_drew));exact (Kd.S_mono (Kd.S_far (p:=⟨gb215,2,none⟩) (Kd.S_far (p:=⟨gb215,1,none⟩) (Kd.S_far (p:=⟨gb215,0,none⟩) (Kd.S_types HO_204001.out BK215.out (by decide)) (fun _ hk => hk.2) (.string t207)) (fun _ hk => hk.2) (.slice Ao49 t208.length co49)) (fun _ hk => hk.2) (.slice Ao50 t211.length co50)) (fun _ h_ => h_.1))) hb);replace HO_204002:=zh (Kd.S_below (by (with_reducible repeat (first|apply Kd.S_alloc|apply Kd.S_drewN|apply Kd.S_drew));exact (Kd.S_mono (Kd.S_far (p:=⟨gb215,2,none⟩) (Kd.S_far (p:=⟨gb215,1,none⟩) (Kd.S_far (p:=⟨gb215,0,none⟩) (Kd.S_types HO_204002.out BK215.out (by decide)) (fun _ hk => hk.2) (.string t207)) (fun _ hk => hk.2) (.slice Ao49 t208.length co49)) (fun _ hk => hk.2) (.slice Ao50 t211.length co50)) (fun _ h_ => h_.1))) hb);replace HO210:=zh (Kd.S_below (by (with_reducible repeat (first|apply Kd.S_alloc|apply Kd.S_drewN|apply Kd.S_drew));exact (Kd.S_mono (Kd.S_far (p:=⟨gb215,2,none⟩) (Kd.S_far (p:=⟨gb215,1,none⟩) (Kd.S_far (p:=⟨gb215,0,none⟩) (Kd.S_types HO210.out BK215.out (by decide)) (fun _ hk => hk.2) (.string t207)) (fun _ hk => hk.2) (.slice Ao49 t208.length co49)) (fun _ hk => hk.2) (.slice Ao50 t211.length co50)) (fun _ h_ => h_.1))) hb);replace HO213:=zh (Kd.S_below (by (with_reducible repeat (first|apply Kd.S_alloc|apply Kd.S_drewN|apply Kd.S_drew));exact (Kd.S_mono (Kd.S_far (p:=⟨gb215,2,none⟩) (Kd.S_far (p:=⟨gb215,1,none⟩) (Kd.S_far (p:=⟨gb215,0,none⟩) (Kd.S_types HO213.out BK215.out (by decide)) (fun _ hk => hk.2) (.string t207)) (fun _ hk => hk.2) (.slice Ao49 t208.length co49)) (fun _ hk => hk.2) (.slice Ao50 t211.length co50)) (fun _ h_ => h_.1))) hb);replace BK194:=zh (zD (g:=gb194) (o:=.cells #[.string t186,.slice Ao9 t187.length co9,.slice Ao10 t190.length co10] 25 (0,0)) (by (with_reducible repeat (first|refine ze ?_ _|refine zf ?_|refine zg ?_ _));refine zQ ?_ NB194_215.out _;(with_reducible repeat (first|refine ze ?_ _|refine zf ?_|refine zg ?_ _));refine zQ ?_ NB194_215.out _;(with_reducible repeat (first|refine ze ?_ _|refine zf ?_|refine zg ?_ _));refine zQ ?_ NB194_215.out _;(with_reducible repeat (first|refine ze ?_ _|refine zf ?_|refine zg ?_ _));exact BK194.out) hb);replace BK203:=zh (zD (g:=gb203) (o:=.cells #[.string t195,.slice Ao15 t196.length co15,.slice Ao16 t199.length co16] 25 (0,0)) (by (with_reducible repeat (first|refine ze ?_ _|refine zf ?_|refine zg ?_ _));refine zQ ?_ NB203_215.out _;(with_reducible repeat (first|refine ze ?_ _|refine zf ?_|refine zg ?_ _));refine zQ ?_ NB203_215.out _;(with_reducible repeat (first|refine ze ?_ _|refine zf ?_|refine zg ?_ _));refine zQ ?_ NB203_215.out _;(with_reducible repeat (first|refine ze ?_ _|refine zf ?_|refine zg ?_ _));exact BK203.out) hb);replace BK215:=zh (zD (g:=gb215) (o:=.cells #[.string t207,.slice Ao49 t208.length co49,.slice Ao50 t211.length co50] 25 (0,0)) (by (with_reducible repeat (first|refine ze ?_ _|refine zf ?_|refine zg ?_ _));refine zK (cs:=#[.string t207,.slice Ao49 t208.length co49,.slice none 0 0]) ?_ 2 _ rfl;(with_reducible repeat (first|refine ze ?_ _|refine zf ?_|refine zg ?_ _));refine zK (cs:=#[.string t207,.slice none 0 0,.slice none 0 0]) ?_ 1 _ rfl;(with_reducible repeat (first|refine ze ?_ _|refine zf ?_|refine zg ?_ _));refine zK (cs:=#[.string (⟨#[]⟩ : ByteArray),.slice none 0 0,.slice none 0 0]) ?_ 0 _ rfl;(with_reducible repeat (first|refine ze ?_ _|refine zf ?_|refine zg ?_ _));exact BK215.out) hb);replace HB:=zh (zC (by repeat (with_reducible first|exact HB.out|apply za|apply zb|apply zc|refine zd ?_ GE194.out|refine zd ?_ GE203.out|refine zd ?_ GE215.out)) hb);(try clear hb);(try clear hb2);(try clear hk);(try clear hi)))
      go_meet
      case rel => exact ⟨_,((t214 != t193)),(by first|rfl|(simp;done)|(simp [*];done)),H',⟨by have:=HJ4.out;first|omega|exact yc _⟩,⟨by (with_reducible repeat (first|apply Kd.S_alloc|apply Kd.S_drewN|apply Kd.S_drew));exact HO_195001.out⟩,⟨by (with_reducible repeat (first|apply Kd.S_alloc|apply Kd.S_drewN|apply Kd.S_drew));exact HO_195002.out⟩,⟨by (with_reducible repeat (first|apply Kd.S_alloc|apply Kd.S_drewN|apply Kd.S_drew));exact HO_204001.out⟩,⟨by (with_reducible repeat (first|apply Kd.S_alloc|apply Kd.S_drewN|apply Kd.S_drew));exact HO_204002.out⟩,⟨by (with_reducible repeat (first|apply Kd.S_alloc|apply Kd.S_drewN|apply Kd.S_drew));exact Kd.S_mono HO210.out (fun _ hk => ⟨hk.1.2,hk.2⟩)⟩,⟨by (with_reducible repeat (first|apply Kd.S_alloc|apply Kd.S_drewN|apply Kd.S_drew));exact Kd.S_mono HO213.out (fun _ hk => ⟨hk.1.2,hk.2⟩)⟩,⟨by (with_reducible repeat (first|refine ze ?_ _|refine zf ?_|refine zg ?_ _));exact BK194.out⟩,⟨by (with_reducible repeat (first|refine ze ?_ _|refine zf ?_|refine zg ?_ _));exact BK203.out⟩,⟨by (with_reducible repeat (first|refine ze ?_ _|refine zf ?_|refine zg ?_ _));exact BK215.out⟩,⟨by repeat (with_reducible first|exact HB.out|apply za|apply zb|apply zc|refine zd ?_ GE194.out|refine zd ?_ GE203.out|refine zd ?_ GE215.out)⟩⟩
     replace c52:=zZ.mpr c52;subst c52;have H1 : (laws_FnExactNewColl.j1 kj4 t205 true t195 t196 t199)=some r:=by rw [if_neg (show ¬ (false=true) by decide)] at H;exact H
     clear H;have H:=H1;clear H1;have H':=zh H;clear H;have hnb59:=NB215_194.out;have hnc59:=NB194_215.out;have hnb60:=NB215_203.out;have hnc60:=NB203_215.out;have hcz61_0 : w45.cell? ⟨gb215,0,none⟩=some (.string (⟨#[]⟩ : ByteArray)):=(zz BK215.out 0).trans rfl;have hcz61_1 : w45.cell? ⟨gb215,1,none⟩=some (.slice none 0 0):=(zz BK215.out 1).trans rfl;have hcz61_2 : w45.cell? ⟨gb215,2,none⟩=some (.slice none 0 0):=(zz BK215.out 2).trans rfl;have hfz61_0:=zA BK215.out 0;have hfz61_1:=zA BK215.out 1;have hfz61_2:=zA BK215.out 2;have hnb62:=NB194_203.out;have hnc62:=NB203_194.out;have hcz63_0 : w45.cell? ⟨gb194,0,none⟩=some (.string t186):=(zz BK194.out 0).trans rfl;have hcz63_1 : w45.cell? ⟨gb194,1,none⟩=some (.slice Ao9 t187.length co9):=(zz BK194.out 1).trans rfl;have hcz63_2 : w45.cell? ⟨gb194,2,none⟩=some (.slice Ao10 t190.length co10):=(zz BK194.out 2).trans rfl;have hfz63_0:=zA BK194.out 0;have hfz63_1:=zA BK194.out 1;have hfz63_2:=zA BK194.out 2
     go_wp2_with (first|((with_reducible refine zI (f:=6) rfl ?_);refine yg (some 51) rfl rfl Try.func6 (by kernel_rfl) rfl #[.agg #[.string t207,.slice Ao49 t208.length co49,.slice Ao50 t211.length co50],.agg #[.string t186,.slice Ao9 t187.length co9,.slice Ao10 t190.length co10]] rfl (by (try simp only [zt,zu,zv]);first|done|rfl|(simp only [zw,zx];rfl)|(simp only [yo,yp,zT,zU];rfl)) ?_;(with_reducible refine (laws_eqColl.calls kj4  t207 _ _ t208 _ _ t211 t186 _ _ t187 _ _ t190 false _ ?side1 ?side2 ?side3 ?side4 ?side5 ?side6 ?side7 ?side8 A51.out).mono ?_);(case side1 => refine (Kd.S_reads' (e:=42) (base:=w.heap.size) (ok:=fun k_ => ((True∧some k_≠(.slice Ao9 t187.length co9 : Value).ownBlock)∧some k_≠(.slice Ao15 t196.length co15 : Value).ownBlock)) (n:=t208.length) (c:=co49) ?_).2.2;exact (by (with_reducible repeat (first|apply Kd.S_alloc|apply Kd.S_drewN|apply Kd.S_drew));exact (Kd.S_mono (Kd.S_far (p:=⟨gb215,2,none⟩) (Kd.S_far (p:=⟨gb215,1,none⟩) (Kd.S_far (p:=⟨gb215,0,none⟩) (Kd.S_types HO210.out BK215.out (by decide)) (fun _ hk => hk.2) (.string t207)) (fun _ hk => hk.2) (.slice Ao49 t208.length co49)) (fun _ hk => hk.2) (.slice Ao50 t211.length co50)) (fun _ h_ => h_.1))));(case side2 => exact (Kd.S_reads' HO210.out).2.1);(case side3 => refine (Kd.S_reads' (e:=46) (base:=w.heap.size) (ok:=fun k_ => ((True∧some k_≠(.slice Ao10 t190.length co10 : Value).ownBlock)∧some k_≠(.slice Ao16 t199.length co16 : Value).ownBlock)) (n:=t211.length) (c:=co50) ?_).2.2;exact (by (with_reducible repeat (first|apply Kd.S_alloc|apply Kd.S_drewN|apply Kd.S_drew));exact (Kd.S_mono (Kd.S_far (p:=⟨gb215,2,none⟩) (Kd.S_far (p:=⟨gb215,1,none⟩) (Kd.S_far (p:=⟨gb215,0,none⟩) (Kd.S_types HO213.out BK215.out (by decide)) (fun _ hk => hk.2) (.string t207)) (fun _ hk => hk.2) (.slice Ao49 t208.length co49)) (fun _ hk => hk.2) (.slice Ao50 t211.length co50)) (fun _ h_ => h_.1))));(case side4 => exact (Kd.S_reads' HO213.out).2.1);(case side5 => refine (Kd.S_reads' (e:=42) (base:=w.heap.size) (ok:=fun k_ => (some k_≠(.slice Ao15 t196.length co15 : Value).ownBlock∧some k_≠(.slice Ao49 t208.length co49 : Value).ownBlock)) (n:=t187.length) (c:=co9) ?_).2.2;exact (by (with_reducible repeat (first|apply Kd.S_alloc|apply Kd.S_drewN|apply Kd.S_drew));exact (Kd.S_mono (Kd.S_far (p:=⟨gb215,2,none⟩) (Kd.S_far (p:=⟨gb215,1,none⟩) (Kd.S_far (p:=⟨gb215,0,none⟩) (Kd.S_types HO_195001.out BK215.out (by decide)) (fun _ hk => hk.2) (.string t207)) (fun _ hk => hk.2) (.slice Ao49 t208.length co49)) (fun _ hk => hk.2) (.slice Ao50 t211.length co50)) (fun _ h_ => h_.1))));(case side6 => exact (Kd.S_reads' HO_195001.out).2.1);(case side7 => refine (Kd.S_reads' (e:=46) (base:=w.heap.size) (ok:=fun k_ => (some k_≠(.slice Ao16 t199.length co16 : Value).ownBlock∧some k_≠(.slice Ao50 t211.length co50 : Value).ownBlock)) (n:=t190.length) (c:=co10) ?_).2.2;exact (by (with_reducible repeat (first|apply Kd.S_alloc|apply Kd.S_drewN|apply Kd.S_drew));exact (Kd.S_mono (Kd.S_far (p:=⟨gb215,2,none⟩) (Kd.S_far (p:=⟨gb215,1,none⟩) (Kd.S_far (p:=⟨gb215,0,none⟩) (Kd.S_types HO_195002.out BK215.out (by decide)) (fun _ hk => hk.2) (.string t207)) (fun _ hk => hk.2) (.slice Ao49 t208.length co49)) (fun _ hk => hk.2) (.slice Ao50 t211.length co50)) (fun _ h_ => h_.1))));(case side8 => exact (Kd.S_reads' HO_195002.out).2.1);rintro e w64 ⟨rfl,hb⟩;refine ⟨_,rfl,?_⟩;replace HO_195001:=zh (Kd.S_below (by (with_reducible repeat (first|apply Kd.S_alloc|apply Kd.S_drewN|apply Kd.S_drew));exact (Kd.S_mono (Kd.S_far (p:=⟨gb215,2,none⟩) (Kd.S_far (p:=⟨gb215,1,none⟩) (Kd.S_far (p:=⟨gb215,0,none⟩) (Kd.S_types HO_195001.out BK215.out (by decide)) (fun _ hk => hk.2) (.string t207)) (fun _ hk => hk.2) (.slice Ao49 t208.length co49)) (fun _ hk => hk.2) (.slice Ao50 t211.length co50)) (fun _ h_ => h_.1))) hb);replace HO_195002:=zh (Kd.S_below (by (with_reducible repeat (first|apply Kd.S_alloc|apply Kd.S_drewN|apply Kd.S_drew));exact (Kd.S_mono (Kd.S_far (p:=⟨gb215,2,none⟩) (Kd.S_far (p:=⟨gb215,1,none⟩) (Kd.S_far (p:=⟨gb215,0,none⟩) (Kd.S_types HO_195002.out BK215.out (by decide)) (fun _ hk => hk.2) (.string t207)) (fun _ hk => hk.2) (.slice Ao49 t208.length co49)) (fun _ hk => hk.2) (.slice Ao50 t211.length co50)) (fun _ h_ => h_.1))) hb);replace HO_204001:=zh (Kd.S_below (by (with_reducible repeat (first|apply Kd.S_alloc|apply Kd.S_drewN|apply Kd.S_drew));exact (Kd.S_mono (Kd.S_far (p:=⟨gb215,2,none⟩) (Kd.S_far (p:=⟨gb215,1,none⟩) (Kd.S_far (p:=⟨gb215,0,none⟩) (Kd.S_types HO_204001.out BK215.out (by decide)) (fun _ hk => hk.2) (.string t207)) (fun _ hk => hk.2) (.slice Ao49 t208.length co49)) (fun _ hk => hk.2) (.slice Ao50 t211.length co50)) (fun _ h_ => h_.1))) hb);replace HO_204002:=zh (Kd.S_below (by (with_reducible repeat (first|apply Kd.S_alloc|apply Kd.S_drewN|apply Kd.S_drew));exact (Kd.S_mono (Kd.S_far (p:=⟨gb215,2,none⟩) (Kd.S_far (p:=⟨gb215,1,none⟩) (Kd.S_far (p:=⟨gb215,0,none⟩) (Kd.S_types HO_204002.out BK215.out (by decide)) (fun _ hk => hk.2) (.string t207)) (fun _ hk => hk.2) (.slice Ao49 t208.length co49)) (fun _ hk => hk.2) (.slice Ao50 t211.length co50)) (fun _ h_ => h_.1))) hb);replace HO210:=zh (Kd.S_below (by (with_reducible repeat (first|apply Kd.S_alloc|apply Kd.S_drewN|apply Kd.S_drew));exact (Kd.S_mono (Kd.S_far (p:=⟨gb215,2,none⟩) (Kd.S_far (p:=⟨gb215,1,none⟩) (Kd.S_far (p:=⟨gb215,0,none⟩) (Kd.S_types HO210.out BK215.out (by decide)) (fun _ hk => hk.2) (.string t207)) (fun _ hk => hk.2) (.slice Ao49 t208.length co49)) (fun _ hk => hk.2) (.slice Ao50 t211.length co50)) (fun _ h_ => h_.1))) hb);replace HO213:=zh (Kd.S_below (by (with_reducible repeat (first|apply Kd.S_alloc|apply Kd.S_drewN|apply Kd.S_drew));exact (Kd.S_mono (Kd.S_far (p:=⟨gb215,2,none⟩) (Kd.S_far (p:=⟨gb215,1,none⟩) (Kd.S_far (p:=⟨gb215,0,none⟩) (Kd.S_types HO213.out BK215.out (by decide)) (fun _ hk => hk.2) (.string t207)) (fun _ hk => hk.2) (.slice Ao49 t208.length co49)) (fun _ hk => hk.2) (.slice Ao50 t211.length co50)) (fun _ h_ => h_.1))) hb);replace BK194:=zh (zD (g:=gb194) (o:=.cells #[.string t186,.slice Ao9 t187.length co9,.slice Ao10 t190.length co10] 25 (0,0)) (by (with_reducible repeat (first|refine ze ?_ _|refine zf ?_|refine zg ?_ _));refine zQ ?_ NB194_215.out _;(with_reducible repeat (first|refine ze ?_ _|refine zf ?_|refine zg ?_ _));refine zQ ?_ NB194_215.out _;(with_reducible repeat (first|refine ze ?_ _|refine zf ?_|refine zg ?_ _));refine zQ ?_ NB194_215.out _;(with_reducible repeat (first|refine ze ?_ _|refine zf ?_|refine zg ?_ _));exact BK194.out) hb);replace BK203:=zh (zD (g:=gb203) (o:=.cells #[.string t195,.slice Ao15 t196.length co15,.slice Ao16 t199.length co16] 25 (0,0)) (by (with_reducible repeat (first|refine ze ?_ _|refine zf ?_|refine zg ?_ _));refine zQ ?_ NB203_215.out _;(with_reducible repeat (first|refine ze ?_ _|refine zf ?_|refine zg ?_ _));refine zQ ?_ NB203_215.out _;(with_reducible repeat (first|refine ze ?_ _|refine zf ?_|refine zg ?_ _));refine zQ ?_ NB203_215.out _;(with_reducible repeat (first|refine ze ?_ _|refine zf ?_|refine zg ?_ _));exact BK203.out) hb);replace BK215:=zh (zD (g:=gb215) (o:=.cells #[.string t207,.slice Ao49 t208.length co49,.slice Ao50 t211.length co50] 25 (0,0)) (by (with_reducible repeat (first|refine ze ?_ _|refine zf ?_|refine zg ?_ _));refine zK (cs:=#[.string t207,.slice Ao49 t208.length co49,.slice none 0 0]) ?_ 2 _ rfl;(with_reducible repeat (first|refine ze ?_ _|refine zf ?_|refine zg ?_ _));refine zK (cs:=#[.string t207,.slice none 0 0,.slice none 0 0]) ?_ 1 _ rfl;(with_reducible repeat (first|refine ze ?_ _|refine zf ?_|refine zg ?_ _));refine zK (cs:=#[.string (⟨#[]⟩ : ByteArray),.slice none 0 0,.slice none 0 0]) ?_ 0 _ rfl;(with_reducible repeat (first|refine ze ?_ _|refine zf ?_|refine zg ?_ _));exact BK215.out) hb);replace HB:=zh (zC (by repeat (with_reducible first|exact HB.out|apply za|apply zb|apply zc|refine zd ?_ GE194.out|refine zd ?_ GE203.out|refine zd ?_ GE215.out)) hb);(try clear hb);(try clear hb2);(try clear hk);(try clear hi)))
     go_meet
     case rel => exact ⟨_,(true),(by first|rfl|(simp;done)|(simp [*];done)),H',⟨by have:=HJ4.out;first|omega|exact yc _⟩,⟨by (with_reducible repeat (first|apply Kd.S_alloc|apply Kd.S_drewN|apply Kd.S_drew));exact HO_195001.out⟩,⟨by (with_reducible repeat (first|apply Kd.S_alloc|apply Kd.S_drewN|apply Kd.S_drew));exact HO_195002.out⟩,⟨by (with_reducible repeat (first|apply Kd.S_alloc|apply Kd.S_drewN|apply Kd.S_drew));exact HO_204001.out⟩,⟨by (with_reducible repeat (first|apply Kd.S_alloc|apply Kd.S_drewN|apply Kd.S_drew));exact HO_204002.out⟩,⟨by (with_reducible repeat (first|apply Kd.S_alloc|apply Kd.S_drewN|apply Kd.S_drew));exact Kd.S_mono HO210.out (fun _ hk => ⟨hk.1.2,hk.2⟩)⟩,⟨by (with_reducible repeat (first|apply Kd.S_alloc|apply Kd.S_drewN|apply Kd.S_drew));exact Kd.S_mono HO213.out (fun _ hk => ⟨hk.1.2,hk.2⟩)⟩,⟨by (with_reducible repeat (first|refine ze ?_ _|refine zf ?_|refine zg ?_ _));exact BK194.out⟩,⟨by (with_reducible repeat (first|refine ze ?_ _|refine zf ?_|refine zg ?_ _));exact BK203.out⟩,⟨by (with_reducible repeat (first|refine ze ?_ _|refine zf ?_|refine zg ?_ _));exact BK215.out⟩,⟨by repeat (with_reducible first|exact HB.out|apply za|apply zb|apply zc|refine zd ?_ GE194.out|refine zd ?_ GE203.out|refine zd ?_ GE215.out)⟩⟩
    case rest =>
     clear HC38
     try clear c1
     try clear c2
     try clear c2b0
     try clear c2b1
     try clear p2
     try clear c3
     try clear c4
     try clear c5
     try clear c6
     try clear c7
     try clear c8
     try clear c13
     try clear c18
     try clear c19
     try clear c23
     try clear c27
     try clear c30
     try clear c30b0
     try clear c31
     try clear c36
     try clear c36b0
     try clear c36b1
     try clear c39
     try clear c46
     try clear c47
     try clear c52
     try clear c53
     try clear c54
     try clear c56
     try clear c59
     try clear c60
     try clear c62
     try clear hcz14_0
     try clear hcz14_1
     try clear hcz14_2
     try clear hcz20_0
     try clear hcz20_1
     try clear hcz20_2
     try clear hcz21_0
     try clear hcz21_1
     try clear hcz21_2
     try clear hcz24_0
     try clear hcz24_1
     try clear hcz24_2
     try clear hcz25_0
     try clear hcz25_1
     try clear hcz25_2
     try clear hcz32_0
     try clear hcz32_1
     try clear hcz32_2
     try clear hcz34_0
     try clear hcz34_1
     try clear hcz34_2
     try clear hcz40_0
     try clear hcz40_1
     try clear hcz40_2
     try clear hcz42_0
     try clear hcz42_1
     try clear hcz42_2
     try clear hcz48_0
     try clear hcz48_1
     try clear hcz48_2
     try clear hcz55_0
     try clear hcz55_1
     try clear hcz55_2
     try clear hcz57_0
     try clear hcz57_1
     try clear hcz57_2
     try clear hcz61_0
     try clear hcz61_1
     try clear hcz61_2
     try clear hcz63_0
     try clear hcz63_1
     try clear hcz63_2
     try clear hcz8_0
     try clear hcz8_1
     try clear hcz8_2
     try clear hfz14_0
     try clear hfz14_1
     try clear hfz14_2
     try clear hfz20_0
     try clear hfz20_1
     try clear hfz20_2
     try clear hfz21_0
     try clear hfz21_1
     try clear hfz21_2
     try clear hfz24_0
     try clear hfz24_1
     try clear hfz24_2
     try clear hfz25_0
     try clear hfz25_1
     try clear hfz25_2
     try clear hfz32_0
     try clear hfz32_1
     try clear hfz32_2
     try clear hfz34_0
     try clear hfz34_1
     try clear hfz34_2
     try clear hfz40_0
     try clear hfz40_1
     try clear hfz40_2
     try clear hfz42_0
     try clear hfz42_1
     try clear hfz42_2
     try clear hfz48_0
     try clear hfz48_1
     try clear hfz48_2
     try clear hfz55_0
     try clear hfz55_1
     try clear hfz55_2
     try clear hfz57_0
     try clear hfz57_1
     try clear hfz57_2
     try clear hfz61_0
     try clear hfz61_1
     try clear hfz61_2
     try clear hfz63_0
     try clear hfz63_1
     try clear hfz63_2
     try clear hfz8_0
     try clear hfz8_1
     try clear hfz8_2
     try clear p2
     obtain ⟨kq,x57_37,rfl,HA,HJ37,HO_195001,HO_195002,HO_204001,HO_204002,HO_216001,HO_216002,BK194,BK203,BK215,HB⟩:=hcut
     cases kq with
     | zero => exact absurd HA.out (by simp [laws_FnExactNewColl.j1])
     | succ kj37 =>
      have H:=HA.out;clear HA;simp only [laws_FnExactNewColl.j1] at H
      by_cases c65 : x57_37=true
      ·
       subst c65
       have H1 : (some false)=some r:=by rw [if_pos rfl] at H;exact H
       clear H;have H:=H1;clear H1;obtain rfl:=zS H
       go_wp2
       go_ret
       exact ⟨by first|rfl|(simp [yq,yr] <;> rfl)|(simp [*,yq,yr] <;> rfl),by repeat (with_reducible first|exact HB.out|apply za|apply zb|apply zc|refine zd ?_ GE194.out|refine zd ?_ GE203.out|refine zd ?_ GE215.out)⟩
      replace c65:=zZ.mpr c65;subst c65;have H1 : ((laws_heldColl.f kj37 t195 t196 t199 1).bind fun t217 => (if t217<0 then (some false) else (if t217=t205 then (some true) else (some false))))=some r:=by rw [if_neg (show ¬ (false=true) by decide)] at H;exact H
      clear H;have H:=H1;clear H1;replace H:=zR.mp H;obtain ⟨t217,A660,H⟩:=H;replace H : (if t217<0 then (some false) else (if t217=t205 then (some true) else (some false)))=some r:=H;have A66:=zh A660;clear A660
      by_cases c67 : t217<0
      ·
       rw [if_pos c67] at H
       have c67b0 : decide (t217<0)=true:=decide_eq_true c67;clear c67;obtain rfl:=zS H;have hnb68:=NB203_194.out;have hnc68:=NB194_203.out;have hnb69:=NB203_215.out;have hnc69:=NB215_203.out;have hcz70_0 : wc.cell? ⟨gb203,0,none⟩=some (.string t195):=(zz BK203.out 0).trans rfl;have hcz70_1 : wc.cell? ⟨gb203,1,none⟩=some (.slice Ao15 t196.length co15):=(zz BK203.out 1).trans rfl;have hcz70_2 : wc.cell? ⟨gb203,2,none⟩=some (.slice Ao16 t199.length co16):=(zz BK203.out 2).trans rfl;have hfz70_0:=zA BK203.out 0;have hfz70_1:=zA BK203.out 1;have hfz70_2:=zA BK203.out 2
       go_wp2_with (first|((with_reducible refine zI (f:=8) rfl ?_);refine yg (some 60) rfl rfl Try.func8 (by kernel_rfl) rfl #[.agg #[.string t195,.slice Ao15 t196.length co15,.slice Ao16 t199.length co16],.int .i64 1] rfl (by (try simp only [zt,zu,zv]);first|done|rfl|(simp only [zw,zx];rfl)|(simp only [yo,yp,zT,zU];rfl)) ?_;(with_reducible refine (laws_heldColl.calls kj37  t195 _ _ t196 _ _ t199 1 t217 _ ?side1 ?side2 ?side3 ?side4 A66.out).mono ?_);(case side1 => repeat (first|exact (Kd.S_reads' HO_204001.out).2.2|(with_reducible refine Kd.C_alloc ?_ _)|(with_reducible refine Kd.C_drewN ?_ _)|(with_reducible refine Kd.C_drew ?_)));(case side2 => exact (Kd.S_reads' HO_204001.out).2.1);(case side3 => repeat (first|exact (Kd.S_reads' HO_204002.out).2.2|(with_reducible refine Kd.C_alloc ?_ _)|(with_reducible refine Kd.C_drewN ?_ _)|(with_reducible refine Kd.C_drew ?_)));(case side4 => exact (Kd.S_reads' HO_204002.out).2.1);rintro e w71 ⟨rfl,hb⟩;refine ⟨_,rfl,?_⟩;replace HO_195001:=zh (Kd.S_below (by (with_reducible repeat (first|apply Kd.S_alloc|apply Kd.S_drewN|apply Kd.S_drew));exact HO_195001.out) hb);replace HO_195002:=zh (Kd.S_below (by (with_reducible repeat (first|apply Kd.S_alloc|apply Kd.S_drewN|apply Kd.S_drew));exact HO_195002.out) hb);replace HO_204001:=zh (Kd.S_below (by (with_reducible repeat (first|apply Kd.S_alloc|apply Kd.S_drewN|apply Kd.S_drew));exact HO_204001.out) hb);replace HO_204002:=zh (Kd.S_below (by (with_reducible repeat (first|apply Kd.S_alloc|apply Kd.S_drewN|apply Kd.S_drew));exact HO_204002.out) hb);replace HO_216001:=zh (Kd.S_below (by (with_reducible repeat (first|apply Kd.S_alloc|apply Kd.S_drewN|apply Kd.S_drew));exact HO_216001.out) hb);replace HO_216002:=zh (Kd.S_below (by (with_reducible repeat (first|apply Kd.S_alloc|apply Kd.S_drewN|apply Kd.S_drew));exact HO_216002.out) hb);replace BK194:=zh (zD (g:=gb194) (o:=.cells #[.string t186,.slice Ao9 t187.length co9,.slice Ao10 t190.length co10] 25 (0,0)) (by (with_reducible repeat (first|refine ze ?_ _|refine zf ?_|refine zg ?_ _));exact BK194.out) hb);replace BK203:=zh (zD (g:=gb203) (o:=.cells #[.string t195,.slice Ao15 t196.length co15,.slice Ao16 t199.length co16] 25 (0,0)) (by (with_reducible repeat (first|refine ze ?_ _|refine zf ?_|refine zg ?_ _));exact BK203.out) hb);replace BK215:=zh (zD (g:=gb215) (o:=.cells #[.string t207,.slice Ao49 t208.length co49,.slice Ao50 t211.length co50] 25 (0,0)) (by (with_reducible repeat (first|refine ze ?_ _|refine zf ?_|refine zg ?_ _));exact BK215.out) hb);replace HB:=zh (zC (by repeat (with_reducible first|exact HB.out|apply za|apply zb|apply zc|refine zd ?_ GE194.out|refine zd ?_ GE203.out|refine zd ?_ GE215.out)) hb);(try clear hb);(try clear hb2);(try clear hk);(try clear hi)))
       go_ret
       exact ⟨by first|rfl|(simp [yq,yr] <;> rfl)|(simp [*,yq,yr] <;> rfl),by repeat (with_reducible first|exact HB.out|apply za|apply zb|apply zc|refine zd ?_ GE194.out|refine zd ?_ GE203.out|refine zd ?_ GE215.out)⟩
      rw [if_neg c67] at H;have c67b0 : decide (t217<0)=false:=decide_eq_false c67;clear c67
      by_cases c72 : t217=t205
      ·
       rw [if_pos c72] at H
       have c72b0 : (t217 == t205)=true:=zY.mpr c72;have c72b1 : (t217 != t205)=false:=zV.mpr c72;clear c72;obtain rfl:=zS H;have hnb73:=NB203_194.out;have hnc73:=NB194_203.out;have hnb74:=NB203_215.out;have hnc74:=NB215_203.out;have hcz75_0 : wc.cell? ⟨gb203,0,none⟩=some (.string t195):=(zz BK203.out 0).trans rfl;have hcz75_1 : wc.cell? ⟨gb203,1,none⟩=some (.slice Ao15 t196.length co15):=(zz BK203.out 1).trans rfl;have hcz75_2 : wc.cell? ⟨gb203,2,none⟩=some (.slice Ao16 t199.length co16):=(zz BK203.out 2).trans rfl;have hfz75_0:=zA BK203.out 0;have hfz75_1:=zA BK203.out 1;have hfz75_2:=zA BK203.out 2
       go_wp2_with (first|((with_reducible refine zI (f:=8) rfl ?_);refine yg (some 60) rfl rfl Try.func8 (by kernel_rfl) rfl #[.agg #[.string t195,.slice Ao15 t196.length co15,.slice Ao16 t199.length co16],.int .i64 1] rfl (by (try simp only [zt,zu,zv]);first|done|rfl|(simp only [zw,zx];rfl)|(simp only [yo,yp,zT,zU];rfl)) ?_;(with_reducible refine (laws_heldColl.calls kj37  t195 _ _ t196 _ _ t199 1 t217 _ ?side1 ?side2 ?side3 ?side4 A66.out).mono ?_);(case side1 => repeat (first|exact (Kd.S_reads' HO_204001.out).2.2|(with_reducible refine Kd.C_alloc ?_ _)|(with_reducible refine Kd.C_drewN ?_ _)|(with_reducible refine Kd.C_drew ?_)));(case side2 => exact (Kd.S_reads' HO_204001.out).2.1);(case side3 => repeat (first|exact (Kd.S_reads' HO_204002.out).2.2|(with_reducible refine Kd.C_alloc ?_ _)|(with_reducible refine Kd.C_drewN ?_ _)|(with_reducible refine Kd.C_drew ?_)));(case side4 => exact (Kd.S_reads' HO_204002.out).2.1);rintro e w76 ⟨rfl,hb⟩;refine ⟨_,rfl,?_⟩;replace HO_195001:=zh (Kd.S_below (by (with_reducible repeat (first|apply Kd.S_alloc|apply Kd.S_drewN|apply Kd.S_drew));exact HO_195001.out) hb);replace HO_195002:=zh (Kd.S_below (by (with_reducible repeat (first|apply Kd.S_alloc|apply Kd.S_drewN|apply Kd.S_drew));exact HO_195002.out) hb);replace HO_204001:=zh (Kd.S_below (by (with_reducible repeat (first|apply Kd.S_alloc|apply Kd.S_drewN|apply Kd.S_drew));exact HO_204001.out) hb);replace HO_204002:=zh (Kd.S_below (by (with_reducible repeat (first|apply Kd.S_alloc|apply Kd.S_drewN|apply Kd.S_drew));exact HO_204002.out) hb);replace HO_216001:=zh (Kd.S_below (by (with_reducible repeat (first|apply Kd.S_alloc|apply Kd.S_drewN|apply Kd.S_drew));exact HO_216001.out) hb);replace HO_216002:=zh (Kd.S_below (by (with_reducible repeat (first|apply Kd.S_alloc|apply Kd.S_drewN|apply Kd.S_drew));exact HO_216002.out) hb);replace BK194:=zh (zD (g:=gb194) (o:=.cells #[.string t186,.slice Ao9 t187.length co9,.slice Ao10 t190.length co10] 25 (0,0)) (by (with_reducible repeat (first|refine ze ?_ _|refine zf ?_|refine zg ?_ _));exact BK194.out) hb);replace BK203:=zh (zD (g:=gb203) (o:=.cells #[.string t195,.slice Ao15 t196.length co15,.slice Ao16 t199.length co16] 25 (0,0)) (by (with_reducible repeat (first|refine ze ?_ _|refine zf ?_|refine zg ?_ _));exact BK203.out) hb);replace BK215:=zh (zD (g:=gb215) (o:=.cells #[.string t207,.slice Ao49 t208.length co49,.slice Ao50 t211.length co50] 25 (0,0)) (by (with_reducible repeat (first|refine ze ?_ _|refine zf ?_|refine zg ?_ _));exact BK215.out) hb);replace HB:=zh (zC (by repeat (with_reducible first|exact HB.out|apply za|apply zb|apply zc|refine zd ?_ GE194.out|refine zd ?_ GE203.out|refine zd ?_ GE215.out)) hb);(try clear hb);(try clear hb2);(try clear hk);(try clear hi)))
       go_ret
       exact ⟨by first|rfl|(simp [yq,yr] <;> rfl)|(simp [*,yq,yr] <;> rfl),by repeat (with_reducible first|exact HB.out|apply za|apply zb|apply zc|refine zd ?_ GE194.out|refine zd ?_ GE203.out|refine zd ?_ GE215.out)⟩
      rw [if_neg c72] at H;have c72b0 : (t217 == t205)=false:=zW.mpr c72;have c72b1 : (t217 != t205)=true:=zX.mpr c72;obtain rfl:=zS H;have hnb77:=NB203_194.out;have hnc77:=NB194_203.out;have hnb78:=NB203_215.out;have hnc78:=NB215_203.out;have hcz79_0 : wc.cell? ⟨gb203,0,none⟩=some (.string t195):=(zz BK203.out 0).trans rfl;have hcz79_1 : wc.cell? ⟨gb203,1,none⟩=some (.slice Ao15 t196.length co15):=(zz BK203.out 1).trans rfl;have hcz79_2 : wc.cell? ⟨gb203,2,none⟩=some (.slice Ao16 t199.length co16):=(zz BK203.out 2).trans rfl;have hfz79_0:=zA BK203.out 0;have hfz79_1:=zA BK203.out 1;have hfz79_2:=zA BK203.out 2
      go_wp2_with (first|((with_reducible refine zI (f:=8) rfl ?_);refine yg (some 60) rfl rfl Try.func8 (by kernel_rfl) rfl #[.agg #[.string t195,.slice Ao15 t196.length co15,.slice Ao16 t199.length co16],.int .i64 1] rfl (by (try simp only [zt,zu,zv]);first|done|rfl|(simp only [zw,zx];rfl)|(simp only [yo,yp,zT,zU];rfl)) ?_;(with_reducible refine (laws_heldColl.calls kj37  t195 _ _ t196 _ _ t199 1 t217 _ ?side1 ?side2 ?side3 ?side4 A66.out).mono ?_);(case side1 => repeat (first|exact (Kd.S_reads' HO_204001.out).2.2|(with_reducible refine Kd.C_alloc ?_ _)|(with_reducible refine Kd.C_drewN ?_ _)|(with_reducible refine Kd.C_drew ?_)));(case side2 => exact (Kd.S_reads' HO_204001.out).2.1);(case side3 => repeat (first|exact (Kd.S_reads' HO_204002.out).2.2|(with_reducible refine Kd.C_alloc ?_ _)|(with_reducible refine Kd.C_drewN ?_ _)|(with_reducible refine Kd.C_drew ?_)));(case side4 => exact (Kd.S_reads' HO_204002.out).2.1);rintro e w80 ⟨rfl,hb⟩;refine ⟨_,rfl,?_⟩;replace HO_195001:=zh (Kd.S_below (by (with_reducible repeat (first|apply Kd.S_alloc|apply Kd.S_drewN|apply Kd.S_drew));exact HO_195001.out) hb);replace HO_195002:=zh (Kd.S_below (by (with_reducible repeat (first|apply Kd.S_alloc|apply Kd.S_drewN|apply Kd.S_drew));exact HO_195002.out) hb);replace HO_204001:=zh (Kd.S_below (by (with_reducible repeat (first|apply Kd.S_alloc|apply Kd.S_drewN|apply Kd.S_drew));exact HO_204001.out) hb);replace HO_204002:=zh (Kd.S_below (by (with_reducible repeat (first|apply Kd.S_alloc|apply Kd.S_drewN|apply Kd.S_drew));exact HO_204002.out) hb);replace HO_216001:=zh (Kd.S_below (by (with_reducible repeat (first|apply Kd.S_alloc|apply Kd.S_drewN|apply Kd.S_drew));exact HO_216001.out) hb);replace HO_216002:=zh (Kd.S_below (by (with_reducible repeat (first|apply Kd.S_alloc|apply Kd.S_drewN|apply Kd.S_drew));exact HO_216002.out) hb);replace BK194:=zh (zD (g:=gb194) (o:=.cells #[.string t186,.slice Ao9 t187.length co9,.slice Ao10 t190.length co10] 25 (0,0)) (by (with_reducible repeat (first|refine ze ?_ _|refine zf ?_|refine zg ?_ _));exact BK194.out) hb);replace BK203:=zh (zD (g:=gb203) (o:=.cells #[.string t195,.slice Ao15 t196.length co15,.slice Ao16 t199.length co16] 25 (0,0)) (by (with_reducible repeat (first|refine ze ?_ _|refine zf ?_|refine zg ?_ _));exact BK203.out) hb);replace BK215:=zh (zD (g:=gb215) (o:=.cells #[.string t207,.slice Ao49 t208.length co49,.slice Ao50 t211.length co50] 25 (0,0)) (by (with_reducible repeat (first|refine ze ?_ _|refine zf ?_|refine zg ?_ _));exact BK215.out) hb);replace HB:=zh (zC (by repeat (with_reducible first|exact HB.out|apply za|apply zb|apply zc|refine zd ?_ GE194.out|refine zd ?_ GE203.out|refine zd ?_ GE215.out)) hb);(try clear hb);(try clear hb2);(try clear hk);(try clear hi)))
      go_ret
      exact ⟨by first|rfl|(simp [yq,yr] <;> rfl)|(simp [*,yq,yr] <;> rfl),by repeat (with_reducible first|exact HB.out|apply za|apply zb|apply zc|refine zd ?_ GE194.out|refine zd ?_ GE203.out|refine zd ?_ GE215.out)⟩
   rw [if_neg c36] at H;have c36b0 : (t206 == t205)=false:=zW.mpr c36;have c36b1 : (t206 != t205)=true:=zX.mpr c36;obtain rfl:=zS H;have hnb81:=NB203_194.out;have hnc81:=NB194_203.out;have hcz82_0 : wc.cell? ⟨gb203,0,none⟩=some (.string t195):=(zz BK203.out 0).trans rfl;have hcz82_1 : wc.cell? ⟨gb203,1,none⟩=some (.slice Ao15 t196.length co15):=(zz BK203.out 1).trans rfl;have hcz82_2 : wc.cell? ⟨gb203,2,none⟩=some (.slice Ao16 t199.length co16):=(zz BK203.out 2).trans rfl;have hfz82_0:=zA BK203.out 0;have hfz82_1:=zA BK203.out 1;have hfz82_2:=zA BK203.out 2
   go_wp2_with (first|((with_reducible refine zI (f:=7) rfl ?_);refine yg (some 35) rfl rfl Try.func7 (by kernel_rfl) rfl #[.agg #[.string t195,.slice Ao15 t196.length co15,.slice Ao16 t199.length co16],.int .i64 1] rfl (by (try simp only [zt,zu,zv]);first|done|rfl|(simp only [zw,zx];rfl)|(simp only [yo,yp,zT,zU];rfl)) ?_;(with_reducible refine (laws_markColl.calls kj4  t195 _ _ t196 _ _ t199 1 t205 _ ?side1 ?side2 ?side3 ?side4 A28.out).mono ?_);(case side1 => repeat (first|exact (Kd.S_reads' HO_204001.out).2.2|(with_reducible refine Kd.C_alloc ?_ _)|(with_reducible refine Kd.C_drewN ?_ _)|(with_reducible refine Kd.C_drew ?_)));(case side2 => exact (Kd.S_reads' HO_204001.out).2.1);(case side3 => repeat (first|exact (Kd.S_reads' HO_204002.out).2.2|(with_reducible refine Kd.C_alloc ?_ _)|(with_reducible refine Kd.C_drewN ?_ _)|(with_reducible refine Kd.C_drew ?_)));(case side4 => exact (Kd.S_reads' HO_204002.out).2.1);rintro e w83 ⟨rfl,hb⟩;refine ⟨_,rfl,?_⟩;replace HO_195001:=zh (Kd.S_below (by (with_reducible repeat (first|apply Kd.S_alloc|apply Kd.S_drewN|apply Kd.S_drew));exact HO_195001.out) hb);replace HO_195002:=zh (Kd.S_below (by (with_reducible repeat (first|apply Kd.S_alloc|apply Kd.S_drewN|apply Kd.S_drew));exact HO_195002.out) hb);replace HO_204001:=zh (Kd.S_below (by (with_reducible repeat (first|apply Kd.S_alloc|apply Kd.S_drewN|apply Kd.S_drew));exact HO_204001.out) hb);replace HO_204002:=zh (Kd.S_below (by (with_reducible repeat (first|apply Kd.S_alloc|apply Kd.S_drewN|apply Kd.S_drew));exact HO_204002.out) hb);replace BK194:=zh (zD (g:=gb194) (o:=.cells #[.string t186,.slice Ao9 t187.length co9,.slice Ao10 t190.length co10] 25 (0,0)) (by (with_reducible repeat (first|refine ze ?_ _|refine zf ?_|refine zg ?_ _));exact BK194.out) hb);replace BK203:=zh (zD (g:=gb203) (o:=.cells #[.string t195,.slice Ao15 t196.length co15,.slice Ao16 t199.length co16] 25 (0,0)) (by (with_reducible repeat (first|refine ze ?_ _|refine zf ?_|refine zg ?_ _));exact BK203.out) hb);replace HB:=zh (zC (by repeat (with_reducible first|exact HB.out|apply za|apply zb|apply zc|refine zd ?_ GE194.out|refine zd ?_ GE203.out)) hb);(try clear hb);(try clear hb2);(try clear hk);(try clear hi);have hcz84_0 : w83.cell? ⟨gb203,0,none⟩=some (.string t195):=(zz BK203.out 0).trans rfl;have hcz84_1 : w83.cell? ⟨gb203,1,none⟩=some (.slice Ao15 t196.length co15):=(zz BK203.out 1).trans rfl;have hcz84_2 : w83.cell? ⟨gb203,2,none⟩=some (.slice Ao16 t199.length co16):=(zz BK203.out 2).trans rfl;have hfz84_0:=zA BK203.out 0;have hfz84_1:=zA BK203.out 1;have hfz84_2:=zA BK203.out 2)|((with_reducible refine zI (f:=8) rfl ?_);refine yg (some 38) rfl rfl Try.func8 (by kernel_rfl) rfl #[.agg #[.string t195,.slice Ao15 t196.length co15,.slice Ao16 t199.length co16],.int .i64 1] rfl (by (try simp only [zt,zu,zv]);first|done|rfl|(simp only [zw,zx];rfl)|(simp only [yo,yp,zT,zU];rfl)) ?_;(with_reducible refine (laws_heldColl.calls kj4  t195 _ _ t196 _ _ t199 1 t206 _ ?side1 ?side2 ?side3 ?side4 A29.out).mono ?_);(case side1 => repeat (first|exact (Kd.S_reads' HO_204001.out).2.2|(with_reducible refine Kd.C_alloc ?_ _)|(with_reducible refine Kd.C_drewN ?_ _)|(with_reducible refine Kd.C_drew ?_)));(case side2 => exact (Kd.S_reads' HO_204001.out).2.1);(case side3 => repeat (first|exact (Kd.S_reads' HO_204002.out).2.2|(with_reducible refine Kd.C_alloc ?_ _)|(with_reducible refine Kd.C_drewN ?_ _)|(with_reducible refine Kd.C_drew ?_)));(case side4 => exact (Kd.S_reads' HO_204002.out).2.1);rintro e w85 ⟨rfl,hb⟩;refine ⟨_,rfl,?_⟩;replace HO_195001:=zh (Kd.S_below (by (with_reducible repeat (first|apply Kd.S_alloc|apply Kd.S_drewN|apply Kd.S_drew));exact HO_195001.out) hb);replace HO_195002:=zh (Kd.S_below (by (with_reducible repeat (first|apply Kd.S_alloc|apply Kd.S_drewN|apply Kd.S_drew));exact HO_195002.out) hb);replace HO_204001:=zh (Kd.S_below (by (with_reducible repeat (first|apply Kd.S_alloc|apply Kd.S_drewN|apply Kd.S_drew));exact HO_204001.out) hb);replace HO_204002:=zh (Kd.S_below (by (with_reducible repeat (first|apply Kd.S_alloc|apply Kd.S_drewN|apply Kd.S_drew));exact HO_204002.out) hb);replace BK194:=zh (zD (g:=gb194) (o:=.cells #[.string t186,.slice Ao9 t187.length co9,.slice Ao10 t190.length co10] 25 (0,0)) (by (with_reducible repeat (first|refine ze ?_ _|refine zf ?_|refine zg ?_ _));exact BK194.out) hb);replace BK203:=zh (zD (g:=gb203) (o:=.cells #[.string t195,.slice Ao15 t196.length co15,.slice Ao16 t199.length co16] 25 (0,0)) (by (with_reducible repeat (first|refine ze ?_ _|refine zf ?_|refine zg ?_ _));exact BK203.out) hb);replace HB:=zh (zC (by repeat (with_reducible first|exact HB.out|apply za|apply zb|apply zc|refine zd ?_ GE194.out|refine zd ?_ GE203.out)) hb);(try clear hb);(try clear hb2);(try clear hk);(try clear hi)))
   go_ret
   exact ⟨by first|rfl|(simp [yq,yr] <;> rfl)|(simp [*,yq,yr] <;> rfl),by repeat (with_reducible first|exact HB.out|apply za|apply zb|apply zc|refine zd ?_ GE194.out|refine zd ?_ GE203.out)⟩

end Go.Proofs.Ytncpldpddbjdgaa.Q
end
section
namespace Go.Proofs.YtncpldpddbjdgaaW.PrintOpen
open Go.RowKit Go.ChangeShapes Go.WideShapes Go.ChangeAt Go.Proofs.YtncpldpddbjdgaaW.PrintWords
def Opens {α : Type} (P : Program) (d : Kd α) (t : TypeId) (good : α→Prop) : Prop :=
 ∀ (H : Type) (enc : TypeId×Value→H) (w : World) (base : Nat) (spare : Nat→Bool) (held : Bool) (fuel : Nat) (cs : List Value) (x : DataW H×List MemPlace),
  DataW.trod enc P w base spare held fuel t cs=some x → ∃ a,d.K w a cs∧good a
variable {P : Program}
def OpensF {α : Type} (P : Program) (d : Kd α) (fs : List Field) (off : Nat) (good : α→Prop) : Prop :=
 ∀ (H : Type) (enc : TypeId×Value→H) (w : World) (base : Nat) (spare : Nat→Bool) (held : Bool) (fuel : Nat) (cs : List Value),off + d.sz≤cs.length →
  (∀ f ∈ fs,∃ x,DataW.trod enc P w base spare held fuel f.type ((cs.drop f.offset).take (P.cellsOf f.type))=some x) → ∃ a,d.K w a ((cs.drop off).take d.sz)∧good a
end Go.Proofs.YtncpldpddbjdgaaW.PrintOpen
end
section
namespace Go.Proofs.Ytncpldpddbjdgaa.Q
open Go.RowKit Go.Proofs.YtncpldpddbjdgaaW.PrintWords Go.Proofs.YtncpldpddbjdgaaW.PrintLast Go.Proofs.YtncpldpddbjdgaaW.PrintMore Go.Proofs.YtncpldpddbjdgaaW.PrintOpen

end Go.Proofs.Ytncpldpddbjdgaa.Q
end
section
namespace Go.Proofs.Ytncpldpddbjdgaa.Q
def laws_FnExactNewColl.Pure : Prop:=∀ (x0 : ByteArray),(x0.size≤9223372036854775807) → ∃ k,laws_FnExactNewColl.f k x0=some true
end Go.Proofs.Ytncpldpddbjdgaa.Q
end
section
namespace Go.Proofs.YtncpldpddbjdgaaW.Pl
open Go Go.RowKit Go.Proofs.YtncpldpddbjdgaaW.PrintWords Go.Proofs.YtncpldpddbjdgaaW.PrintMore
theorem w64 {i : Int} (h0 : -9223372036854775808≤i) (h1 : i≤9223372036854775807) : wrap64 i=i:=by unfold wrap64;omega
theorem fuel {k d : Nat} (h : d<k) : ∃ m,k=m + 1∧d≤m:=⟨k - 1,by omega,by omega⟩
theorem rd_at (xs : List Int) (i : Nat) (h : i<xs.length) : rd xs (i : Int)=xs[i]:=by
 unfold rd;simp [List.getD,h]
theorem drop_at {α : Type} (xs : List α) (i : Nat) (h : i<xs.length) : xs.drop i=xs[i] :: xs.drop (i + 1):=List.drop_eq_getElem_cons h
def all2 {α β : Type} (e : α→β→Bool) : List α→List β→Bool
 | [],_ => true
 | _ :: _,[] => true
 | x :: xs,y :: ys => e x y && all2 e xs ys
def first {α : Type} (p : α→Bool) : List α→Nat→Int
 | [],_ => -1
 | x :: xs,i => if p x=true then i else first p xs (i + 1)
def total {α : Type} (s : α→Nat) : List α→Nat
 | [] => 0
 | x :: xs => s x + total s xs
def less {α : Type} (s : α→Nat) : List α→Int→Int
 | [],l => l
 | x :: xs,l => if l - s x<0 then -1 else less s xs (l - s x)
def Eve {α : Type} (g : Nat→Option α) (v : α) : Prop:=∃ K,∀ k,K≤k→g k=some v
theorem Eve.one {α : Type} {v : α} : Eve (fun _ => some v) v:=⟨0,fun _ _ => rfl⟩
theorem Eve.all {α : Type} {g : Nat→Option α} {v : α} (h : ∀ k,g k=some v) : Eve g v:=⟨0,fun k _ => h k⟩
theorem Eve.of {α : Type} {g : Nat→Option α} {v : α} {n : Nat} (h : ∀ k,n<k→g k=some v) : Eve g v:=⟨n + 1,fun k hk => h k (by omega)⟩
theorem Eve.succ {α : Type} {g : Nat→Option α} {v : α} (h : Eve (fun k => g (k + 1)) v) : Eve g v:=by
 obtain ⟨K,h⟩:=h;refine ⟨K + 1,fun k hk => ?_⟩;obtain ⟨k,rfl⟩ : ∃ m,k=m + 1:=⟨k - 1,by omega⟩;exact h k (by omega)
theorem Eve.bind {α β : Type} {g : Nat→Option α} {f : Nat→α→Option β} {v : α} {u : β} (h : Eve g v) (h2 : Eve (fun k => f k v) u) : Eve (fun k => (g k).bind (f k)) u:=by
 obtain ⟨K,h⟩:=h;obtain ⟨K2,h2⟩:=h2;refine ⟨max K K2,fun k hk => ?_⟩;show (g k).bind (f k)=some u;rw [h k (by omega),Option.bind_some];exact h2 k (by omega)
theorem Eve.ite {α : Type} {c : Prop} [Decidable c] {a b : Nat→Option α} {v : α} (h1 : c→Eve a v) (h2 : ¬ c→Eve b v) : Eve (fun k => if c then a k else b k) v:=by
 by_cases h : c
 ·
  simp only [if_pos h];exact h1 h
 simp only [if_neg h];exact h2 h
theorem Eve.get {α : Type} {g : Nat→Option α} {v : α} (h : Eve g v) : ∃ k,g k=some v:=by
 obtain ⟨K,h⟩:=h;exact ⟨K,h K (by omega)⟩
theorem Eve.eq {α : Type} {g : Nat→Option α} {v u : α} (h : Eve g v) (e : v=u) : Eve g u:=e ▸ h
theorem Eve.congr {α : Type} {g f : Nat→Option α} {v : α} (h : Eve g v) (e : ∀ k,f k=g k) : Eve f v:=by
 obtain ⟨K,h⟩:=h;exact ⟨K,fun k hk => by rw [e,h k hk]⟩
theorem ev_loop {σ α β : Type} (xs : List α) (g : Nat→σ→Int→Option β) (R : Nat→σ→List α→β) (I : Nat→σ→Prop)
  (hend : ∀ s,I xs.length s→Eve (fun k => g (k + 1) s (xs.length : Int)) (R xs.length s []))
  (hstep : ∀ (i : Nat) (h : i<xs.length) (s : σ),I i s→(∀ s',I (i + 1) s' → Eve (fun k => g k s' ((i + 1 : Nat) : Int)) (R (i + 1) s' (xs.drop (i + 1)))) →
   Eve (fun k => g (k + 1) s (i : Int)) (R i s (xs[i] :: xs.drop (i + 1)))) :
  ∀ (d i : Nat) (s : σ),i + d=xs.length→I i s→Eve (fun k => g k s (i : Int)) (R i s (xs.drop i)):=by
 intro d
 induction d with
 | zero =>
  intro i s hi hI;obtain rfl : i=xs.length:=by omega
  rw [List.drop_length];exact Eve.succ (hend s hI)
 | succ d ih =>
  intro i s hi hI;have hlt : i<xs.length:=by omega
  rw [drop_at xs i hlt];exact Eve.succ (hstep i hlt s hI (fun s' h' => ih (i + 1) s' (by omega) h'))
theorem ev_loop0 {σ α β : Type} (xs : List α) (g : Nat→σ→Int→Option β) (R : Nat→σ→List α→β) (I : Nat→σ→Prop)
  (hend : ∀ s,I xs.length s→Eve (fun k => g (k + 1) s (xs.length : Int)) (R xs.length s []))
  (hstep : ∀ (i : Nat) (h : i<xs.length) (s : σ),I i s→(∀ s',I (i + 1) s' → Eve (fun k => g k s' ((i + 1 : Nat) : Int)) (R (i + 1) s' (xs.drop (i + 1)))) →
   Eve (fun k => g (k + 1) s (i : Int)) (R i s (xs[i] :: xs.drop (i + 1)))) (s : σ) (h0 : I 0 s) : Eve (fun k => g k s 0) (R 0 s xs):=by
 have:=ev_loop xs g R I hend hstep xs.length 0 s (by omega) h0
 simpa using this
end Go.Proofs.YtncpldpddbjdgaaW.Pl
end
