/- FnExactPathOK: for every argument the law answers true, and the argument reads behind the call as it read before. Condition: the package-level variables that it reads start as the program's text lays them; the card ties them to it. -/
import Derived.Test.YtmhomllbfblmjaaDoorProg
import Derived.Below
import Derived.Deep.Draws
import Derived.Deep.AppendLies
import Derived.Maps.AppendAt
import Derived.OwnWalk
import Derived.Laws.BytesArg
import Derived.Laws.MakeOwn
import Derived.Laws.OwnMore
import Derived.Deep.OwnRows
import Derived.Tactics
import Derived.Lib.ConvBytes
import Derived.Laws.Slices
import Derived.WalkKit
import Derived.KernelRfl
import Derived.RowKit3
import Derived.Deep.LoopGhost
import Derived.Deep.QuietTactic
import Derived.BigQuiet
import Derived.WideLaws
import Derived.Deep.DeepCutAuto
import Derived.Deep.CutBlock
import Derived.Deep.RegionHeld3
import Derived.Laws.Rows
import Derived.Lib.AppendStr
import Derived.ArgAppend
import Derived.Laws.IdiomCopy
import Derived.OrdersHeld
import Derived.Laws.BitsLemmas
import Derived.RowKit
import Derived.Lib.Strings
import Derived.Lib.Slices
import Derived.Lib.Walk
import Derived.Lib.Bytealg
import Derived.Test.YtmhomllbfblmjaaDoorKLawFnExactPathOKp12
import Derived.Test.YtmhomllbfblmjaaDoorKLawFnExactPathOKp0
import Derived.Test.YtmhomllbfblmjaaDoorKLawFnExactPathOKp1
import Derived.Test.YtmhomllbfblmjaaDoorKLawFnExactPathOKp13
import Derived.Test.YtmhomllbfblmjaaDoorKLawFnExactPathOKp14
import Derived.Test.YtmhomllbfblmjaaDoorKLawFnExactPathOKp2
import Derived.Test.YtmhomllbfblmjaaDoorKLawFnExactPathOKp3
import Derived.Test.YtmhomllbfblmjaaDoorKLawFnExactPathOKp4
import Derived.Test.YtmhomllbfblmjaaDoorKLawFnExactPathOKp5
import Derived.Test.YtmhomllbfblmjaaDoorKLawFnExactPathOKp6
import Derived.Test.YtmhomllbfblmjaaDoorKLawFnExactPathOKp7
import Derived.Test.YtmhomllbfblmjaaDoorKLawFnExactPathOKp8
import Derived.Test.YtmhomllbfblmjaaDoorKLawFnExactPathOKp9
import Derived.Test.YtmhomllbfblmjaaDoorKLawFnExactPathOKp15
import Derived.Test.YtmhomllbfblmjaaDoorKLawFnExactPathOKp16
import Derived.Test.YtmhomllbfblmjaaDoorKLawFnExactPathOKp17
import Derived.Test.YtmhomllbfblmjaaDoorKLawFnExactPathOKp18
import Derived.Test.YtmhomllbfblmjaaDoorKLawFnExactPathOKp19
import Derived.Test.YtmhomllbfblmjaaDoorKLawFnExactPathOKp20
import Derived.Test.YtmhomllbfblmjaaDoorKLawFnExactPathOKp21
import Derived.Test.YtmhomllbfblmjaaDoorKLawFnExactPathOKp10
import Derived.Test.YtmhomllbfblmjaaDoorKLawFnExactPathOKp11
import Derived.ProofKit
import Derived.OpenShut
import Derived.ShutString
import Derived.ChangeOld
import Derived.SizedLaws
import Derived.Deep.Slices
import Derived.Lib.SmallJoins
import Derived.Test.YtmhomllbfblmjaaDoorRows
import Derived.Test.YtmhomllbfblmjaaDoorTie
import Derived.Test.YtmhomllbfblmjaaDoorCards
import Derived.LaidMore
import Derived.Stop.Joined
import Derived.SevenTiedAt
import Derived.Carry
section
namespace Go.Proofs.YtmhomllbfblmjaaDoor.Q
open Go.RowKit Go.Proofs.YtmhomllbfblmjaaDoorW.PrintWords Go.Proofs.YtmhomllbfblmjaaDoorW.PrintLast Go.Proofs.YtmhomllbfblmjaaDoorW.PrintMore
attribute [local go_sem] max2_int min2_int max_two min_two max_three min_three max_four min_four max2_str min2_str str_geq str_gtr str_leq
set_option linter.unusedVariables false
set_option linter.unusedSimpArgs false



def errW : Option Int→Value
 | none => .nilIface
 | some c => .iface 0 (.int .i64 c)
theorem errW_none : errW none = .nilIface:=rfl
theorem errW_some (c : Int) : errW (some c) = .iface 0 (.int .i64 c):=rfl

theorem info9 : (Tryd.prog.info? 9).map (fun i => (i.zero,i.size,i.bytes))=some (some (.string ⟨#[]⟩),1,16):=by kernel_rfl
-- the values' own types

abbrev bm_ (i n : Nat) : Array Bool:=(List.replicate i true ++ List.replicate (n - i) false).toArray
abbrev za:=@below_alloc
abbrev zb:=@pw_below_drewN
abbrev zc:=@below_drew1
abbrev zd:=@below_set
abbrev ze:=@blk_drewN
abbrev zf:=@blk_drew
abbrev zg:=@blk_alloc
abbrev zh:=@Aside0.mk
abbrev zi:=@List.setIfInBounds_toArray
abbrev zj:=@List.set_cons_zero
abbrev zk:=@List.set_cons_succ
abbrev zl:=@World.block_lt_of_cell?
abbrev zm:=@Kd.R_alloc
abbrev zn:=@Kd.R_drewN
abbrev zo:=@Kd.R_drew
abbrev zp:=@Kept.drewN
abbrev zq:=@Kept.drew
abbrev zr:=@Kept.alloc
abbrev zs:=@Kept.setCell
abbrev zt:=@List.map_toArray
abbrev zu:=@List.map_cons
abbrev zv:=@List.map_nil
abbrev zw:=@List.length_drop
abbrev zx:=@List.length_take
abbrev zy:=@of_decide_eq_true
abbrev zz:=@blk_cell
abbrev zA:=@blk_frozen
abbrev zB:=@below_size
abbrev zC:=@below_step
abbrev zD:=@blk_below
abbrev zE:=@add_block
abbrev zF:=@i64_w
abbrev zG:=@i32_w
abbrev zH:=@box_event
abbrev zI:=@gate_callee
abbrev zJ:=@gate_dst
abbrev zK:=@blk_put
abbrev zL:=@LeO.none
abbrev zM:=@LeO.bind
abbrev zN:=@LeO.ite
abbrev zO:=@LeO.refl
abbrev zP:=@cell_far
abbrev zQ:=@blk_far
abbrev zR:=@Option.bind_eq_some_iff
abbrev zS:=@Option.some.inj
abbrev zT:=@Int.ofNat_lt
abbrev zU:=@Int.ofNat_le
abbrev zV:=@bne_eq_false_iff_eq
abbrev zW:=@beq_eq_false_iff_ne
abbrev zX:=@bne_iff_ne
abbrev zY:=@beq_iff_eq
abbrev zZ:=@Bool.eq_false_iff
abbrev ya:=@Nat.ne_of_gt
abbrev yb:=@Nat.le_refl
abbrev yc:=@Kd.R_reads'
abbrev yd:=@blk_lt
abbrev ye:=@goesL_
abbrev yf:=@Kd.R_slice
abbrev yg:=@KeepBut.set_
abbrev yh:=@keep_drewN
abbrev yi:=@keep_alloc
abbrev yj:=@take_ofW
abbrev yk:=@Drawn0.refl
abbrev yl:=@Drawn0.step
abbrev ym:=@gt_iff_lt
abbrev yn:=@ge_iff_le
abbrev yo:=@errW_none
abbrev yp:=@errW_some
abbrev yq:=@blk_grown
abbrev yr:=@keep_drew
abbrev ys:=@Kd.R_lower
abbrev yt:=@gate_guard
abbrev yu:=@Kept.of_grown
abbrev yv:=@gate_builtin
end Go.Proofs.YtmhomllbfblmjaaDoor.Q
end
section
namespace Go.Proofs.YtmhomllbfblmjaaDoor.Q
open Go.RowKit Go.Proofs.YtmhomllbfblmjaaDoorW.PrintWords Go.Proofs.YtmhomllbfblmjaaDoorW.PrintLast Go.Proofs.YtmhomllbfblmjaaDoorW.PrintMore
attribute [local go_sem] max2_int min2_int max_two min_two max_three min_three max_four min_four max2_str min2_str str_geq str_gtr str_leq   -- for this text's walks alone
set_option linter.unusedVariables false
set_option linter.unusedSimpArgs false

def spec_l00Cut.l0 : Nat→ByteArray→Int→List ByteArray→Int→Int→Option (List ByteArray)
 | 0,_,_,_,_,_ => none
 | k + 1,x0,x1,x5,x6,x7 => if x7<(x0.size : Int) then (if 0≤x7 then (if (bt x0 x7)=x1 then (if 0≤x6 then (if x6≤x7 then (if x7≤(x0.size : Int) then (if x5.length<8796093022208 then (spec_l00Cut.l0 k x0 x1 (x5 ++ [x0.extract (x6 : Int).toNat (x7 : Int).toNat]) (wrap64 (x7 + 1)) (wrap64 (x7 + 1))) else (none)) else (none)) else (none)) else (none)) else (spec_l00Cut.l0 k x0 x1 x5 x6 (wrap64 (x7 + 1)))) else (none)) else (if 0≤x6 then (if x6≤(x0.size : Int) then (if x5.length<8796093022208 then (some (x5 ++ [x0.extract (x6 : Int).toNat x0.size])) else (none)) else (none)) else (none))
def spec_l00Cut.f (k : Nat) (a0 : ByteArray) (a1 : Int) : Option (List ByteArray):=spec_l00Cut.l0 k a0 a1 (([] : List ByteArray)) 0 0
theorem spec_l00Cut.mono_l : ∀ k,(∀ y0 y1 y2 y3 y4,LeO (spec_l00Cut.l0 k y0 y1 y2 y3 y4) (spec_l00Cut.l0 (k + 1) y0 y1 y2 y3 y4))
 | 0 => fun _ _ _ _ _ r h => by simp [spec_l00Cut.l0] at h
 | k + 1 => by
  have ih0:=spec_l00Cut.mono_l k;intro y0 y1 y2 y3 y4;unfold spec_l00Cut.l0
  repeat' first|(with_reducible exact ih0 _ _ _ _ _)|(with_reducible exact zO _)|(with_reducible exact zL _)|(with_reducible refine zN ?_ ?_)|(with_reducible refine zM ?_ (fun _ => ?_))|refine zN ?_ ?_|refine zM ?_ (fun _ => ?_)
theorem spec_l00Cut.mono : ∀ a0 a1 k,LeO (spec_l00Cut.f k a0 a1) (spec_l00Cut.f (k + 1) a0 a1):=by
 intro a0 a1 k;have ih0:=spec_l00Cut.mono_l k;unfold spec_l00Cut.f
 repeat' first|(with_reducible exact ih0 _ _ _ _ _)|(with_reducible exact zO _)|(with_reducible exact zL _)|(with_reducible refine zN ?_ ?_)|(with_reducible refine zM ?_ (fun _ => ?_))|refine zN ?_ ?_|refine zM ?_ (fun _ => ?_)
set_option maxHeartbeats 8000000 in
set_option maxRecDepth 100000 in
theorem spec_l00Cut.calls (k : Nat) (a0 : ByteArray) (a1 : Int) (r : List ByteArray) (w : World) (h : spec_l00Cut.f k a0 a1=some r) :
  Calls Tryd.prog 6 #[.string a0,.int .u8 a1] w fun e w' => ∃ v0_ : Value,e = .returned (v0_)∧Kd.R Kd.string 9 w' w.heap.size (fun _ => True) v0_ r∧Below w.heap.size w w':=by
 have HB:=zh (Below.refl w.heap.size w);have H : (spec_l00Cut.l0 k a0 a1 (([] : List ByteArray)) 0 0)=some r:=h;clear h;obtain ⟨y101,hy101⟩ : ∃ y_ : List ByteArray,y_=(([] : List ByteArray)):=⟨_,rfl⟩;replace H : (spec_l00Cut.l0 k a0 a1 y101 0 0)=some r:=by first|(rw [hy101];with_reducible exact H)|(have H2_:=(Option.bind_some _ _).symm.trans H;rw [hy101];with_reducible exact H2_)|(have H2_:=(Option.bind_some _ _).symm.trans H;with_reducible exact H2_)|with_reducible exact H|(rw [hy101];exact H)|exact H
 have Ny101:=zh hy101;clear hy101;have H':=zh H;clear H
 go_enter Tryd.func6,Tryd.ntmps6
 go_wp2_with (first|((with_reducible refine zJ (N:=8) rfl ?_);refine Kd.R_lit Kd.string _ 9 ?hg (N:=8) ?hd (xs:=([] : List ByteArray)) (inner:=[]) (ok:=fun _ => True) (okp:=fun _ => True) ?hr ?hp (fun _ hk => hk) trivial (Below.refl _ _) (yb _) (by simp) ?_;(case hd => rfl);(case hg => rfl);(case hr => first|(go_simp;done)|(go_simp;rfl));(case hp => exact (Reps.none _ _));intro v102 w3 ho4 hb hg_ hnew_;clear hg_ hnew_;(first|rw [← Ny101.out] at ho4|(simp only [Int.reduceToNat] at ho4;rw [← Ny101.out] at ho4));have HO103:=zh (ys ho4 (zB (by repeat (with_reducible first|exact HB.out|apply za|apply zb|apply zc))));replace HB:=zh (zC (by repeat (with_reducible first|exact HB.out|apply za|apply zb|apply zc)) hb);clear hb ho4))
 go_loopg [5,6,7] k (fun kq v5 v6 v7 w' => ∃ (x5_1 : List ByteArray) (x6_1 : Int) (x7_1 : Int),v6 = .int .i64 x6_1∧v7 = .int .i64 x7_1∧Aside0 (spec_l00Cut.l0 kq a0 a1 x5_1 x6_1 x7_1=some r)∧Aside0 (kq≤k)∧Aside0 (Kd.R Kd.string 9 w' w.heap.size (fun _ => True) v5 x5_1)∧Aside0 (Below w.heap.size w w'))
 case atStart => exact ⟨(y101),(0),(0),(by first|rfl|(simp;done)|(simp [*];done)),(by first|rfl|(simp;done)|(simp [*];done)),H',⟨yb _⟩,⟨by (with_reducible repeat (first|apply zm|apply zn|apply zo));exact HO103.out⟩,⟨by repeat (with_reducible first|exact HB.out|apply za|apply zb|apply zc)⟩⟩
 case round =>
  clear H'
  try clear p2
  obtain ⟨x5_1,x6_1,x7_1,rfl,rfl,HA,HK1,HO_5,HB⟩:=hrel
  cases gk with
  | zero => exact absurd HA.out (by simp [spec_l00Cut.l0])
  | succ k1 =>
   have H:=HA.out;clear HA;simp only [spec_l00Cut.l0] at H
   by_cases c5 : x7_1<(a0.size : Int)
   ·
    rw [if_pos c5] at H
    have c5b0 : decide (x7_1<(a0.size : Int))=true:=decide_eq_true c5;clear c5
    by_cases c6 : 0≤x7_1
    ·
     rw [if_pos c6] at H
     have c6b0 : decide (0≤x7_1)=true:=decide_eq_true c6;clear c6
     by_cases c8 : (bt a0 x7_1)=a1
     ·
      rw [if_pos c8] at H
      have c8b0 : ((bt a0 x7_1) == a1)=true:=zY.mpr c8;have c8b1 : ((bt a0 x7_1) != a1)=false:=zV.mpr c8;clear c8
      by_cases c9 : 0≤x6_1
      ·
       rw [if_pos c9] at H
       have c9b0:=eq_true c9;have c9b1 : decide (0≤x6_1)=true:=decide_eq_true c9;clear c9
       by_cases c10 : x6_1≤x7_1
       ·
        rw [if_pos c10] at H
        have c10b0:=eq_true c10;have c10b1 : decide (x6_1≤x7_1)=true:=decide_eq_true c10;clear c10
        by_cases c11 : x7_1≤(a0.size : Int)
        ·
         rw [if_pos c11] at H
         have c11b0:=eq_true c11;have c11b1 : decide (x7_1≤(a0.size : Int))=true:=decide_eq_true c11;clear c11
         by_cases c12 : x5_1.length<8796093022208
         ·
          rw [if_pos c12] at H
          have LMc12:=zh c12;clear c12;obtain ⟨y104,hy104⟩ : ∃ y_ : List ByteArray,y_=(x5_1 ++ [a0.extract (x6_1 : Int).toNat (x7_1 : Int).toNat]):=⟨_,rfl⟩;replace H : (spec_l00Cut.l0 k1 a0 a1 y104 (wrap64 (x7_1 + 1)) (wrap64 (x7_1 + 1)))=some r:=by first|(rw [hy104];with_reducible exact H)|(have H2_:=(Option.bind_some _ _).symm.trans H;rw [hy104];with_reducible exact H2_)|(have H2_:=(Option.bind_some _ _).symm.trans H;with_reducible exact H2_)|with_reducible exact H|(rw [hy104];exact H)|exact H
          have Ny104:=zh hy104;clear hy104;have H':=zh H;clear H;have p7 : 0≤(x7_1 : Int):=zy (by first|(with_reducible assumption)|assumption);have q7 : x7_1<(a0.size : Int):=zy (by first|(with_reducible assumption)|assumption);have hx7:=bt_at a0 x7_1;replace p7:=eq_true p7;replace q7:=eq_true q7
          go_wp2_with (first|((with_reducible refine yv (b:=.append) (xs:=#[.tmp 20,.tmp 25]) rfl ?_);at_builtin;refine Kd.R_append Kd.string (w0:=w) w.heap.size rfl (.tmp 20) (.tmp 25) 23 9 (.string ⟨#[]⟩) 16 rfl Tryd.underlying23 info9 rfl (by decide) (by omega) u5 x5_1 (a0.extract (x6_1 : Int).toNat (x7_1 : Int).toNat) [.string (a0.extract (x6_1 : Int).toNat (x7_1 : Int).toNat)] (fun _ => True) (fun _ => False) rfl rfl ?aP (fun _ hk => hk.elim) ?aF ?aO ?aB ?aS ?aL ?_;(case aP => exact rfl);(case aB => exact (by repeat (with_reducible first|exact HB.out|apply za|apply zb|apply zc)));(case aF => exact (fun _ _ => trivial));(case aO => exact (by (with_reducible repeat (first|apply zm|apply zn|apply zo));exact HO_5.out));(case aS => exact (zB (by repeat (with_reducible first|exact HB.out|apply za|apply zb|apply zc))));(case aL => have:=LMc12.out;omega);intro v105 w13 ho hb hg hat;rw [← Ny104.out] at ho;replace HB:=zh (hb);have HO106:=zh (ho);clear HO_5 ho hb hg hat))
          go_roundg k1
          case measure => have:=HK1.out;omega
          case rel => exact ⟨(y104),(wrap64 (x7_1 + 1)),(wrap64 (x7_1 + 1)),(by first|rfl|(simp;done)|(simp [*];done)),(by first|rfl|(simp;done)|(simp [*];done)),H',⟨by have:=HK1.out;omega⟩,⟨by (with_reducible repeat (first|apply zm|apply zn|apply zo));exact HO106.out⟩,⟨by repeat (with_reducible first|exact HB.out|apply za|apply zb|apply zc)⟩⟩
         rw [if_neg c12] at H;exact absurd H (by simp)
        rw [if_neg c11] at H;exact absurd H (by simp)
       rw [if_neg c10] at H;exact absurd H (by simp)
      rw [if_neg c9] at H;exact absurd H (by simp)
     rw [if_neg c8] at H;have c8b0 : ((bt a0 x7_1) == a1)=false:=zW.mpr c8;have c8b1 : ((bt a0 x7_1) != a1)=true:=zX.mpr c8;have H':=zh H;clear H;have p7 : 0≤(x7_1 : Int):=zy (by first|(with_reducible assumption)|assumption);have q7 : x7_1<(a0.size : Int):=zy (by first|(with_reducible assumption)|assumption);have hx7:=bt_at a0 x7_1;replace p7:=eq_true p7;replace q7:=eq_true q7
     go_wp2
     go_roundg k1
     case measure => have:=HK1.out;omega
     case rel => exact ⟨(x5_1),(x6_1),(wrap64 (x7_1 + 1)),(by first|rfl|(simp;done)|(simp [*];done)),(by first|rfl|(simp;done)|(simp [*];done)),H',⟨by have:=HK1.out;omega⟩,⟨by (with_reducible repeat (first|apply zm|apply zn|apply zo));exact HO_5.out⟩,⟨by repeat (with_reducible first|exact HB.out|apply za|apply zb|apply zc)⟩⟩
    rw [if_neg c6] at H;exact absurd H (by simp)
   rw [if_neg c5] at H;have c5b0 : decide (x7_1<(a0.size : Int))=false:=decide_eq_false c5;clear c5
   by_cases c14 : 0≤x6_1
   ·
    rw [if_pos c14] at H
    have c14b0:=eq_true c14;have c14b1 : decide (0≤x6_1)=true:=decide_eq_true c14;clear c14
    by_cases c15 : x6_1≤(a0.size : Int)
    ·
     rw [if_pos c15] at H
     have c15b0:=eq_true c15;have c15b1 : decide (x6_1≤(a0.size : Int))=true:=decide_eq_true c15;clear c15
     by_cases c16 : x5_1.length<8796093022208
     ·
      rw [if_pos c16] at H
      have LMc16:=zh c16;clear c16;obtain ⟨y107,hy107⟩ : ∃ y_ : List ByteArray,y_=(x5_1 ++ [a0.extract (x6_1 : Int).toNat a0.size]):=⟨_,rfl⟩;replace H : (some y107)=some r:=by first|(rw [hy107];with_reducible exact H)|(have H2_:=(Option.bind_some _ _).symm.trans H;rw [hy107];with_reducible exact H2_)|(have H2_:=(Option.bind_some _ _).symm.trans H;with_reducible exact H2_)|with_reducible exact H|(rw [hy107];exact H)|exact H
      have Ny107:=zh hy107;clear hy107;obtain rfl:=zS H
      go_wp2_with (first|((with_reducible refine yv (b:=.append) (xs:=#[.tmp 29,.tmp 33]) rfl ?_);at_builtin;refine Kd.R_append Kd.string (w0:=w) w.heap.size rfl (.tmp 29) (.tmp 33) 23 9 (.string ⟨#[]⟩) 16 rfl Tryd.underlying23 info9 rfl (by decide) (by omega) u5 x5_1 (a0.extract (x6_1 : Int).toNat a0.size) [.string (a0.extract (x6_1 : Int).toNat a0.size)] (fun _ => True) (fun _ => False) rfl rfl ?aP (fun _ hk => hk.elim) ?aF ?aO ?aB ?aS ?aL ?_;(case aP => exact rfl);(case aB => exact (by repeat (with_reducible first|exact HB.out|apply za|apply zb|apply zc)));(case aF => exact (fun _ _ => trivial));(case aO => exact (by (with_reducible repeat (first|apply zm|apply zn|apply zo));exact HO_5.out));(case aS => exact (zB (by repeat (with_reducible first|exact HB.out|apply za|apply zb|apply zc))));(case aL => have:=LMc16.out;omega);intro v108 w17 ho hb hg hat;rw [← Ny107.out] at ho;replace HB:=zh (hb);have HO109:=zh (ho);clear HO_5 ho hb hg hat))
      go_ret
      exact ⟨_,by first|rfl|(simp [yo,yp] <;> rfl)|(simp [*,yo,yp] <;> rfl),by (with_reducible repeat (first|apply zm|apply zn|apply zo));exact HO109.out,by repeat (with_reducible first|exact HB.out|apply za|apply zb|apply zc)⟩
     rw [if_neg c16] at H;exact absurd H (by simp)
    rw [if_neg c15] at H;exact absurd H (by simp)
   rw [if_neg c14] at H;exact absurd H (by simp)

end Go.Proofs.YtmhomllbfblmjaaDoor.Q
end
section
namespace Go.Proofs.YtmhomllbfblmjaaDoor.Q
open Go.RowKit Go.Proofs.YtmhomllbfblmjaaDoorW.PrintWords Go.Proofs.YtmhomllbfblmjaaDoorW.PrintLast Go.Proofs.YtmhomllbfblmjaaDoorW.PrintMore
attribute [local go_sem] max2_int min2_int max_two min_two max_three min_three max_four min_four max2_str min2_str str_geq str_gtr str_leq   -- for this text's walks alone
set_option linter.unusedVariables false
set_option linter.unusedSimpArgs false

def spec_l00Letter.f (a0 : Int) : Option (Bool):=if a0 ≥ 97 then (if a0≤122 then (some true) else (if a0 ≥ 65 then (if a0≤90 then (some true) else (some (a0 == 95))) else (some (a0 == 95)))) else (if a0 ≥ 65 then (if a0≤90 then (some true) else (some (a0 == 95))) else (some (a0 == 95)))
set_option maxHeartbeats 8000000 in
set_option maxRecDepth 100000 in
theorem spec_l00Letter.calls (a0 : Int) (r : Bool) (w : World) (h : spec_l00Letter.f a0=some r) :
  Calls Tryd.prog 23 #[.int .u8 a0] w fun e w' => e = .returned (.bool r)∧Drawn0 w w':=by
 have H : (if a0 ≥ 97 then (if a0≤122 then (some true) else (if a0 ≥ 65 then (if a0≤90 then (some true) else (some (a0 == 95))) else (some (a0 == 95)))) else (if a0 ≥ 65 then (if a0≤90 then (some true) else (some (a0 == 95))) else (some (a0 == 95))))=some r:=h;clear h
 by_cases c2 : a0 ≥ 97
 ·
  rw [if_pos c2] at H
  have c2b0 : decide (97≤a0)=true:=decide_eq_true c2;clear c2
  by_cases c3 : a0≤122
  ·
   rw [if_pos c3] at H
   have c3b0 : decide (a0≤122)=true:=decide_eq_true c3;clear c3;obtain rfl:=zS H
   go_enter Tryd.func23,Tryd.ntmps23
   go_wp2
   go_ret
   exact ⟨by first|rfl|(simp;done)|(simp [*];done),by repeat (first|exact yk _|apply yl)⟩
  rw [if_neg c3] at H;have c3b0 : decide (a0≤122)=false:=decide_eq_false c3;clear c3
  by_cases c4 : a0 ≥ 65
  ·
   rw [if_pos c4] at H
   have c4b0 : decide (65≤a0)=true:=decide_eq_true c4;clear c4
   by_cases c5 : a0≤90
   ·
    rw [if_pos c5] at H
    have c5b0 : decide (a0≤90)=true:=decide_eq_true c5;clear c5;obtain rfl:=zS H
    go_enter Tryd.func23,Tryd.ntmps23
    go_wp2
    go_ret
    exact ⟨by first|rfl|(simp;done)|(simp [*];done),by repeat (first|exact yk _|apply yl)⟩
   rw [if_neg c5] at H;have c5b0 : decide (a0≤90)=false:=decide_eq_false c5;clear c5;obtain rfl:=zS H
   go_enter Tryd.func23,Tryd.ntmps23
   go_wp2
   go_ret
   exact ⟨by first|rfl|(simp;done)|(simp [*];done),by repeat (first|exact yk _|apply yl)⟩
  rw [if_neg c4] at H;have c4b0 : decide (65≤a0)=false:=decide_eq_false c4;clear c4;obtain rfl:=zS H
  go_enter Tryd.func23,Tryd.ntmps23
  go_wp2
  go_ret
  exact ⟨by first|rfl|(simp;done)|(simp [*];done),by repeat (first|exact yk _|apply yl)⟩
 rw [if_neg c2] at H;have c2b0 : decide (97≤a0)=false:=decide_eq_false c2;clear c2
 by_cases c6 : a0 ≥ 65
 ·
  rw [if_pos c6] at H
  have c6b0 : decide (65≤a0)=true:=decide_eq_true c6;clear c6
  by_cases c7 : a0≤90
  ·
   rw [if_pos c7] at H
   have c7b0 : decide (a0≤90)=true:=decide_eq_true c7;clear c7;obtain rfl:=zS H
   go_enter Tryd.func23,Tryd.ntmps23
   go_wp2
   go_ret
   exact ⟨by first|rfl|(simp;done)|(simp [*];done),by repeat (first|exact yk _|apply yl)⟩
  rw [if_neg c7] at H;have c7b0 : decide (a0≤90)=false:=decide_eq_false c7;clear c7;obtain rfl:=zS H
  go_enter Tryd.func23,Tryd.ntmps23
  go_wp2
  go_ret
  exact ⟨by first|rfl|(simp;done)|(simp [*];done),by repeat (first|exact yk _|apply yl)⟩
 rw [if_neg c6] at H;have c6b0 : decide (65≤a0)=false:=decide_eq_false c6;clear c6;obtain rfl:=zS H
 go_enter Tryd.func23,Tryd.ntmps23
 go_wp2
 go_ret
 exact ⟨by first|rfl|(simp;done)|(simp [*];done),by repeat (first|exact yk _|apply yl)⟩

end Go.Proofs.YtmhomllbfblmjaaDoor.Q
end
section
namespace Go.Proofs.YtmhomllbfblmjaaDoor.Q
open Go.RowKit Go.Proofs.YtmhomllbfblmjaaDoorW.PrintWords Go.Proofs.YtmhomllbfblmjaaDoorW.PrintLast Go.Proofs.YtmhomllbfblmjaaDoorW.PrintMore
attribute [local go_sem] max2_int min2_int max_two min_two max_three min_three max_four min_four max2_str min2_str str_geq str_gtr str_leq   -- for this text's walks alone
set_option linter.unusedVariables false
set_option linter.unusedSimpArgs false

def spec_l00Digit.f (a0 : Int) : Option (Bool):=if a0 ≥ 48 then (some (decide (a0≤57))) else (some false)
set_option maxHeartbeats 8000000 in
set_option maxRecDepth 100000 in
theorem spec_l00Digit.calls (a0 : Int) (r : Bool) (w : World) (h : spec_l00Digit.f a0=some r) :
  Calls Tryd.prog 24 #[.int .u8 a0] w fun e w' => e = .returned (.bool r)∧Drawn0 w w':=by
 have H : (if a0 ≥ 48 then (some (decide (a0≤57))) else (some false))=some r:=h;clear h
 by_cases c2 : a0 ≥ 48
 ·
  rw [if_pos c2] at H
  have c2b0 : decide (48≤a0)=true:=decide_eq_true c2;clear c2;obtain rfl:=zS H
  go_enter Tryd.func24,Tryd.ntmps24
  go_wp2
  go_ret
  exact ⟨by first|rfl|(simp;done)|(simp [*];done),by repeat (first|exact yk _|apply yl)⟩
 rw [if_neg c2] at H;have c2b0 : decide (48≤a0)=false:=decide_eq_false c2;clear c2;obtain rfl:=zS H
 go_enter Tryd.func24,Tryd.ntmps24
 go_wp2
 go_ret
 exact ⟨by first|rfl|(simp;done)|(simp [*];done),by repeat (first|exact yk _|apply yl)⟩

end Go.Proofs.YtmhomllbfblmjaaDoor.Q
end
section
namespace Go.Proofs.YtmhomllbfblmjaaDoor.Q
open Go.RowKit Go.Proofs.YtmhomllbfblmjaaDoorW.PrintWords Go.Proofs.YtmhomllbfblmjaaDoorW.PrintLast Go.Proofs.YtmhomllbfblmjaaDoorW.PrintMore
attribute [local go_sem] max2_int min2_int max_two min_two max_three min_three max_four min_four max2_str min2_str str_geq str_gtr str_leq   -- for this text's walks alone
set_option linter.unusedVariables false
set_option linter.unusedSimpArgs false

mutual
def spec_l00Word.j0 : Nat→ByteArray→Bool→Option (Bool)
 | 0,_,_ => none
 | k + 1,x0,x17 => if x17=true then (some false) else (spec_l00Word.l0 k x0 1)
def spec_l00Word.l0 : Nat→ByteArray→Int→Option (Bool)
 | 0,_,_ => none
 | k + 1,x0,x3 => if x3<(x0.size : Int) then (if 0≤x3 then ((spec_l00Letter.f (bt x0 x3)).bind fun t111 => (if t111=true then (spec_l00Word.l0 k x0 (wrap64 (x3 + 1))) else ((spec_l00Digit.f (bt x0 x3)).bind fun t112 => (if t112=true then (spec_l00Word.l0 k x0 (wrap64 (x3 + 1))) else (some false))))) else (none)) else (some true)
end
def spec_l00Word.f (k : Nat) (a0 : ByteArray) : Option (Bool):=if (a0.size : Int)<1 then (spec_l00Word.j0 k a0 true) else (if (a0.size : Int) > 40 then (spec_l00Word.j0 k a0 true) else (if 0<(a0.size : Int) then ((spec_l00Letter.f (bt a0 0)).bind fun t110 => (spec_l00Word.j0 k a0 (!t110))) else (none)))
theorem spec_l00Word.mono_l : ∀ k,(∀ y0 y1,LeO (spec_l00Word.j0 k y0 y1) (spec_l00Word.j0 (k + 1) y0 y1))∧(∀ y0 y1,LeO (spec_l00Word.l0 k y0 y1) (spec_l00Word.l0 (k + 1) y0 y1))
 | 0 => ⟨fun _ _ r h => by simp [spec_l00Word.j0] at h,fun _ _ r h => by simp [spec_l00Word.l0] at h⟩
 | k + 1 => by
  obtain ⟨ih0,ih1⟩:=spec_l00Word.mono_l k;refine ⟨?_,?_⟩
  ·
   intro y0 y1
   unfold spec_l00Word.j0
   repeat' first|(with_reducible exact ih0 _ _)|(with_reducible exact ih1 _ _)|(with_reducible exact zO _)|(with_reducible exact zL _)|(with_reducible refine zN ?_ ?_)|(with_reducible refine zM ?_ (fun _ => ?_))|refine zN ?_ ?_|refine zM ?_ (fun _ => ?_)
  intro y0 y1;unfold spec_l00Word.l0
  repeat' first|(with_reducible exact ih0 _ _)|(with_reducible exact ih1 _ _)|(with_reducible exact zO _)|(with_reducible exact zL _)|(with_reducible refine zN ?_ ?_)|(with_reducible refine zM ?_ (fun _ => ?_))|refine zN ?_ ?_|refine zM ?_ (fun _ => ?_)
theorem spec_l00Word.mono : ∀ a0 k,LeO (spec_l00Word.f k a0) (spec_l00Word.f (k + 1) a0):=by
 intro a0 k;obtain ⟨ih0,ih1⟩:=spec_l00Word.mono_l k;unfold spec_l00Word.f
 repeat' first|(with_reducible exact ih0 _ _)|(with_reducible exact ih1 _ _)|(with_reducible exact zO _)|(with_reducible exact zL _)|(with_reducible refine zN ?_ ?_)|(with_reducible refine zM ?_ (fun _ => ?_))|refine zN ?_ ?_|refine zM ?_ (fun _ => ?_)
set_option maxHeartbeats 8000000 in
set_option maxRecDepth 100000 in
theorem spec_l00Word.calls (k : Nat) (a0 : ByteArray) (r : Bool) (w : World) (h : spec_l00Word.f k a0=some r) :
  Calls Tryd.prog 16 #[.string a0] w fun e w' => e = .returned (.bool r)∧Drawn0 w w':=by
 have H : (if (a0.size : Int)<1 then (spec_l00Word.j0 k a0 true) else (if (a0.size : Int) > 40 then (spec_l00Word.j0 k a0 true) else (if 0<(a0.size : Int) then ((spec_l00Letter.f (bt a0 0)).bind fun t110 => (spec_l00Word.j0 k a0 (!t110))) else (none))))=some r:=h;clear h;have HC2:=zh H;clear H
 go_enter Tryd.func16,Tryd.ntmps16
 go_upto_region 1 with (fail)
 go_cut [17] (fun v17 wc => ∃ (kq : Nat) (x17_1 : Bool),v17 = .bool x17_1∧Aside0 (spec_l00Word.j0 kq a0 x17_1=some r)∧Aside0 (kq≤k)∧Drawn0 w wc)
 case first =>
  have H:=HC2.out;clear HC2
  by_cases c3 : (a0.size : Int)<1
  ·
   rw [if_pos c3] at H
   have c3b0 : decide ((a0.size : Int)<1)=true:=decide_eq_true c3;have c3b1 : decide (a0.size<1)=true:=decide_eq_true (by omega);clear c3;(first|rw [c3b0]|(simp only [zF,zG];rw [c3b0])|skip);have H':=zh H;clear H
   go_wp2
   go_meet
   case rel => exact ⟨_,(true),(by first|rfl|(simp;done)|(simp [*];done)),H',⟨by first|omega|exact yb _⟩,by repeat (first|exact yk _|apply yl)⟩
  rw [if_neg c3] at H;have c3b0 : decide ((a0.size : Int)<1)=false:=decide_eq_false c3;have c3b1 : decide (a0.size<1)=false:=decide_eq_false (by omega);clear c3;(first|rw [c3b0]|(simp only [zF,zG];rw [c3b0])|skip)
  by_cases c4 : (a0.size : Int) > 40
  ·
   rw [if_pos c4] at H
   have c4b0 : decide (40<(a0.size : Int))=true:=decide_eq_true c4;have c4b1 : decide (40<a0.size)=true:=decide_eq_true (by omega);clear c4;have H':=zh H;clear H
   go_wp2
   go_meet
   case rel => exact ⟨_,(true),(by first|rfl|(simp;done)|(simp [*];done)),H',⟨by first|omega|exact yb _⟩,by repeat (first|exact yk _|apply yl)⟩
  rw [if_neg c4] at H;have c4b0 : decide (40<(a0.size : Int))=false:=decide_eq_false c4;have c4b1 : decide (40<a0.size)=false:=decide_eq_false (by omega);clear c4
  by_cases c5 : 0<(a0.size : Int)
  ·
   rw [if_pos c5] at H
   have c5b0 : decide (0<(a0.size : Int))=true:=decide_eq_true c5;have c5b1 : decide (0<a0.size)=true:=decide_eq_true (by omega);clear c5;replace H:=zR.mp H;obtain ⟨t110,A70,H⟩:=H;replace H : (spec_l00Word.j0 k a0 (!t110))=some r:=H;have A7:=zh A70;clear A70;have H':=zh H;clear H;have p6 : 0≤(0 : Int):=(by omega);have q6 : 0<a0.size:=(by have : (0 : Int)<(a0.size : Int):=zy (by first|(with_reducible assumption)|assumption);omega);have hx6 : ∀ h : 0<a0.size,((a0[0]'h).toNat : Int)=bt a0 0:=bt_at a0 0;clear p6;have qi6 : (0<(a0.size : Int))=True:=eq_true (zy (by first|(with_reducible assumption)|assumption));replace q6:=eq_true q6
   go_wp2_with (first|(go_at_call 23;(with_reducible refine (spec_l00Letter.calls  (bt a0 0) t110 _ A7.out).mono ?_);rintro e w' ⟨rfl,⟨nd,rfl⟩⟩))
   go_meet
   case rel => exact ⟨_,(!t110),(by first|rfl|(simp;done)|(simp [*];done)),H',⟨by first|omega|exact yb _⟩,by repeat (first|exact yk _|apply yl)⟩
  rw [if_neg c5] at H;exact absurd H (by simp)
 case rest =>
  clear HC2
  try clear c1
  try clear p2
  try clear c3
  try clear c3b0
  try clear c3b1
  try clear c4
  try clear c4b0
  try clear c4b1
  try clear c5
  try clear c5b0
  try clear c5b1
  try clear p6
  try clear q6
  try clear hx6
  try clear qi6
  try clear p6
  try clear q6
  obtain ⟨kq,x17_1,rfl,HA,HJ1,⟨mc1,rfl⟩⟩:=hcut
  cases kq with
  | zero => exact absurd HA.out (by simp [spec_l00Word.j0])
  | succ kj1 =>
   have H:=HA.out;clear HA;simp only [spec_l00Word.j0] at H
   by_cases c8 : x17_1=true
   ·
    subst c8
    have H1 : (some false)=some r:=by rw [if_pos rfl] at H;exact H
    clear H;have H:=H1;clear H1;obtain rfl:=zS H
    go_wp2
    go_ret
    exact ⟨by first|rfl|(simp;done)|(simp [*];done),by repeat (first|exact yk _|apply yl)⟩
   replace c8:=zZ.mpr c8;subst c8;have H1 : (spec_l00Word.l0 kj1 a0 1)=some r:=by rw [if_neg (show ¬ (false=true) by decide)] at H;exact H
   clear H;have H:=H1;clear H1;have H':=zh H;clear H
   go_wp2
   go_loopg [3] kj1 (fun kq v3 w' => ∃ (x3_2 : Int),v3 = .int .i64 x3_2∧Aside0 (spec_l00Word.l0 kq a0 x3_2=some r)∧Aside0 (kq≤kj1)∧Drawn0 w w')
   case atStart => exact ⟨(1),(by first|rfl|(simp;done)|(simp [*];done)),H',⟨yb _⟩,by repeat (first|exact yk _|apply yl)⟩
   case round =>
    clear H'
    try clear c1
    try clear p2
    try clear c3
    try clear c3b0
    try clear c3b1
    try clear c4
    try clear c4b0
    try clear c4b1
    try clear c5
    try clear c5b0
    try clear c5b1
    try clear p6
    try clear q6
    try clear hx6
    try clear qi6
    try clear c8
    try clear p2
    try clear p6
    try clear q6
    obtain ⟨x3_2,rfl,HA,HK2,⟨m2,rfl⟩⟩:=hrel
    cases gk with
    | zero => exact absurd HA.out (by simp [spec_l00Word.l0])
    | succ k2 =>
     have H:=HA.out;clear HA;simp only [spec_l00Word.l0] at H
     by_cases c9 : x3_2<(a0.size : Int)
     ·
      rw [if_pos c9] at H
      have c9b0 : decide (x3_2<(a0.size : Int))=true:=decide_eq_true c9;clear c9
      by_cases c10 : 0≤x3_2
      ·
       rw [if_pos c10] at H
       have c10b0 : decide (0≤x3_2)=true:=decide_eq_true c10;clear c10;replace H:=zR.mp H;obtain ⟨t111,A120,H⟩:=H;replace H : (if t111=true then (spec_l00Word.l0 k2 a0 (wrap64 (x3_2 + 1))) else ((spec_l00Digit.f (bt a0 x3_2)).bind fun t112 => (if t112=true then (spec_l00Word.l0 k2 a0 (wrap64 (x3_2 + 1))) else (some false))))=some r:=H;have A12:=zh A120;clear A120
       by_cases c13 : t111=true
       ·
        subst c13
        have H1 : (spec_l00Word.l0 k2 a0 (wrap64 (x3_2 + 1)))=some r:=by rw [if_pos rfl] at H;exact H
        clear H;have H:=H1;clear H1;have H':=zh H;clear H;have p11 : 0≤(x3_2 : Int):=zy (by first|(with_reducible assumption)|assumption);have q11 : x3_2<(a0.size : Int):=zy (by first|(with_reducible assumption)|assumption);have hx11:=bt_at a0 x3_2;replace p11:=eq_true p11;replace q11:=eq_true q11
        go_wp2_with (first|((with_reducible refine zI (f:=23) rfl ?_);refine ye (some 27) rfl rfl Tryd.func23 (by kernel_rfl) rfl #[.int .u8 (bt a0 x3_2)] rfl (by (try simp only [zt,zu,zv]);first|done|rfl|(simp only [zw,zx];rfl)|(simp only [ym,yn,zT,zU];rfl)) ?_;(with_reducible refine (spec_l00Letter.calls  (bt a0 x3_2) true _ A12.out).mono ?_);rintro e w' ⟨rfl,⟨nd,rfl⟩⟩;refine ⟨_,rfl,?_⟩))
        go_roundg k2
        case measure => have:=HJ1.out;have:=HK2.out;omega
        case rel => exact ⟨(wrap64 (x3_2 + 1)),(by first|rfl|(simp;done)|(simp [*];done)),H',⟨by have:=HJ1.out;have:=HK2.out;omega⟩,by repeat (first|exact yk _|apply yl)⟩
       replace c13:=zZ.mpr c13;subst c13;have H1 : ((spec_l00Digit.f (bt a0 x3_2)).bind fun t112 => (if t112=true then (spec_l00Word.l0 k2 a0 (wrap64 (x3_2 + 1))) else (some false)))=some r:=by rw [if_neg (show ¬ (false=true) by decide)] at H;exact H
       clear H;have H:=H1;clear H1;replace H:=zR.mp H;obtain ⟨t112,A150,H⟩:=H;replace H : (if t112=true then (spec_l00Word.l0 k2 a0 (wrap64 (x3_2 + 1))) else (some false))=some r:=H;have A15:=zh A150;clear A150
       by_cases c16 : t112=true
       ·
        subst c16
        have H1 : (spec_l00Word.l0 k2 a0 (wrap64 (x3_2 + 1)))=some r:=by rw [if_pos rfl] at H;exact H
        clear H;have H:=H1;clear H1;have H':=zh H;clear H;have p11 : 0≤(x3_2 : Int):=zy (by first|(with_reducible assumption)|assumption);have q11 : x3_2<(a0.size : Int):=zy (by first|(with_reducible assumption)|assumption);have hx11:=bt_at a0 x3_2;replace p11:=eq_true p11;replace q11:=eq_true q11
        go_wp2_with (first|((with_reducible refine zI (f:=23) rfl ?_);refine ye (some 27) rfl rfl Tryd.func23 (by kernel_rfl) rfl #[.int .u8 (bt a0 x3_2)] rfl (by (try simp only [zt,zu,zv]);first|done|rfl|(simp only [zw,zx];rfl)|(simp only [ym,yn,zT,zU];rfl)) ?_;(with_reducible refine (spec_l00Letter.calls  (bt a0 x3_2) false _ A12.out).mono ?_);rintro e w' ⟨rfl,⟨nd,rfl⟩⟩;refine ⟨_,rfl,?_⟩;have p14 : 0≤(x3_2 : Int):=zy (by first|(with_reducible assumption)|assumption);have q14 : x3_2<(a0.size : Int):=zy (by first|(with_reducible assumption)|assumption);have hx14:=bt_at a0 x3_2;replace p14:=eq_true p14;replace q14:=eq_true q14)|(go_at_call 24;(with_reducible refine (spec_l00Digit.calls  (bt a0 x3_2) true _ A15.out).mono ?_);rintro e w' ⟨rfl,⟨nd,rfl⟩⟩))
        go_roundg k2
        case measure => have:=HJ1.out;have:=HK2.out;omega
        case rel => exact ⟨(wrap64 (x3_2 + 1)),(by first|rfl|(simp;done)|(simp [*];done)),H',⟨by have:=HJ1.out;have:=HK2.out;omega⟩,by repeat (first|exact yk _|apply yl)⟩
       replace c16:=zZ.mpr c16;subst c16;have H1 : (some false)=some r:=by rw [if_neg (show ¬ (false=true) by decide)] at H;exact H
       clear H;have H:=H1;clear H1;obtain rfl:=zS H;have p11 : 0≤(x3_2 : Int):=zy (by first|(with_reducible assumption)|assumption);have q11 : x3_2<(a0.size : Int):=zy (by first|(with_reducible assumption)|assumption);have hx11:=bt_at a0 x3_2;replace p11:=eq_true p11;replace q11:=eq_true q11
       go_wp2_with (first|((with_reducible refine zI (f:=23) rfl ?_);refine ye (some 27) rfl rfl Tryd.func23 (by kernel_rfl) rfl #[.int .u8 (bt a0 x3_2)] rfl (by (try simp only [zt,zu,zv]);first|done|rfl|(simp only [zw,zx];rfl)|(simp only [ym,yn,zT,zU];rfl)) ?_;(with_reducible refine (spec_l00Letter.calls  (bt a0 x3_2) false _ A12.out).mono ?_);rintro e w' ⟨rfl,⟨nd,rfl⟩⟩;refine ⟨_,rfl,?_⟩;have p14 : 0≤(x3_2 : Int):=zy (by first|(with_reducible assumption)|assumption);have q14 : x3_2<(a0.size : Int):=zy (by first|(with_reducible assumption)|assumption);have hx14:=bt_at a0 x3_2;replace p14:=eq_true p14;replace q14:=eq_true q14)|(go_at_call 24;(with_reducible refine (spec_l00Digit.calls  (bt a0 x3_2) false _ A15.out).mono ?_);rintro e w' ⟨rfl,⟨nd,rfl⟩⟩))
       go_ret
       exact ⟨by first|rfl|(simp;done)|(simp [*];done),by repeat (first|exact yk _|apply yl)⟩
      rw [if_neg c10] at H;exact absurd H (by simp)
     rw [if_neg c9] at H;have c9b0 : decide (x3_2<(a0.size : Int))=false:=decide_eq_false c9;clear c9;obtain rfl:=zS H
     go_wp2
     go_ret
     exact ⟨by first|rfl|(simp;done)|(simp [*];done),by repeat (first|exact yk _|apply yl)⟩

end Go.Proofs.YtmhomllbfblmjaaDoor.Q
end
section
namespace Go.Proofs.YtmhomllbfblmjaaDoor.Q
open Go.RowKit Go.Proofs.YtmhomllbfblmjaaDoorW.PrintWords Go.Proofs.YtmhomllbfblmjaaDoorW.PrintLast Go.Proofs.YtmhomllbfblmjaaDoorW.PrintMore
attribute [local go_sem] max2_int min2_int max_two min_two max_three min_three max_four min_four max2_str min2_str str_geq str_gtr str_leq   -- for this text's walks alone
set_option linter.unusedVariables false
set_option linter.unusedSimpArgs false

def spec_NameOK.f (k : Nat) (a0 : ByteArray) : Option (Bool):=(spec_l00Word.f k a0).bind fun t113 => (some t113)
theorem spec_NameOK.mono : ∀ a0 k,LeO (spec_NameOK.f k a0) (spec_NameOK.f (k + 1) a0):=by
 intro a0 k;unfold spec_NameOK.f
 repeat' first|(with_reducible exact spec_l00Word.mono _ _)|(with_reducible exact zO _)|(with_reducible exact zL _)|(with_reducible refine zN ?_ ?_)|(with_reducible refine zM ?_ (fun _ => ?_))|refine zN ?_ ?_|refine zM ?_ (fun _ => ?_)
set_option maxHeartbeats 8000000 in
set_option maxRecDepth 100000 in
theorem spec_NameOK.calls (k : Nat) (a0 : ByteArray) (r : Bool) (w : World) (h : spec_NameOK.f k a0=some r) :
  Calls Tryd.prog 12 #[.string a0] w fun e w' => e = .returned (.bool r)∧Drawn0 w w':=by
 have H : ((spec_l00Word.f k a0).bind fun t113 => (some t113))=some r:=h;clear h;replace H:=zR.mp H;obtain ⟨t113,A20,H⟩:=H;replace H : (some t113)=some r:=H;have A2:=zh A20;clear A20;obtain rfl:=zS H
 go_enter Tryd.func12,Tryd.ntmps12
 go_wp2_with (first|((with_reducible refine zI (f:=16) rfl ?_);refine ye (some 4) rfl rfl Tryd.func16 (by kernel_rfl) rfl #[.string a0] rfl (by (try simp only [zt,zu,zv]);first|done|rfl|(simp only [zw,zx];rfl)|(simp only [ym,yn,zT,zU];rfl)) ?_;(with_reducible refine (spec_l00Word.calls k  a0 t113 _ A2.out).mono ?_);rintro e w' ⟨rfl,⟨nd,rfl⟩⟩;refine ⟨_,rfl,?_⟩))
 go_ret
 exact ⟨by first|rfl|(simp;done)|(simp [*];done),by repeat (first|exact yk _|apply yl)⟩

end Go.Proofs.YtmhomllbfblmjaaDoor.Q
end
section
namespace Go.Proofs.YtmhomllbfblmjaaDoor.Q
open Go.RowKit Go.Proofs.YtmhomllbfblmjaaDoorW.PrintWords Go.Proofs.YtmhomllbfblmjaaDoorW.PrintLast Go.Proofs.YtmhomllbfblmjaaDoorW.PrintMore
attribute [local go_sem] max2_int min2_int max_two min_two max_three min_three max_four min_four max2_str min2_str str_geq str_gtr str_leq   -- for this text's walks alone
set_option linter.unusedVariables false
set_option linter.unusedSimpArgs false

def spec_l01Name.f (k : Nat) (a0 : ByteArray) : Option (Bool):=(spec_NameOK.f k a0).bind fun t114 => (if t114=true then (some (decide ((a0.size : Int)≤12))) else (some false))
theorem spec_l01Name.mono : ∀ a0 k,LeO (spec_l01Name.f k a0) (spec_l01Name.f (k + 1) a0):=by
 intro a0 k;unfold spec_l01Name.f
 repeat' first|(with_reducible exact spec_NameOK.mono _ _)|(with_reducible exact zO _)|(with_reducible exact zL _)|(with_reducible refine zN ?_ ?_)|(with_reducible refine zM ?_ (fun _ => ?_))|refine zN ?_ ?_|refine zM ?_ (fun _ => ?_)
set_option maxHeartbeats 8000000 in
set_option maxRecDepth 100000 in
theorem spec_l01Name.calls (k : Nat) (a0 : ByteArray) (r : Bool) (w : World) (h : spec_l01Name.f k a0=some r) :
  Calls Tryd.prog 7 #[.string a0] w fun e w' => e = .returned (.bool r)∧Drawn0 w w':=by
 have H : ((spec_NameOK.f k a0).bind fun t114 => (if t114=true then (some (decide ((a0.size : Int)≤12))) else (some false)))=some r:=h;clear h;replace H:=zR.mp H;obtain ⟨t114,A20,H⟩:=H;replace H : (if t114=true then (some (decide ((a0.size : Int)≤12))) else (some false))=some r:=H;have A2:=zh A20;clear A20
 by_cases c3 : t114=true
 ·
  subst c3
  have H1 : (some (decide ((a0.size : Int)≤12)))=some r:=by rw [if_pos rfl] at H;exact H
  clear H;have H:=H1;clear H1;obtain rfl:=zS H
  go_enter Tryd.func7,Tryd.ntmps7
  go_wp2_with (first|((with_reducible refine zI (f:=12) rfl ?_);refine ye (some 4) rfl rfl Tryd.func12 (by kernel_rfl) rfl #[.string a0] rfl (by (try simp only [zt,zu,zv]);first|done|rfl|(simp only [zw,zx];rfl)|(simp only [ym,yn,zT,zU];rfl)) ?_;(with_reducible refine (spec_NameOK.calls k  a0 true _ A2.out).mono ?_);rintro e w' ⟨rfl,⟨nd,rfl⟩⟩;refine ⟨_,rfl,?_⟩))
  go_ret
  exact ⟨by first|rfl|(simp;done)|(simp [*];done),by repeat (first|exact yk _|apply yl)⟩
 replace c3:=zZ.mpr c3;subst c3;have H1 : (some false)=some r:=by rw [if_neg (show ¬ (false=true) by decide)] at H;exact H
 clear H;have H:=H1;clear H1;obtain rfl:=zS H
 go_enter Tryd.func7,Tryd.ntmps7
 go_wp2_with (first|((with_reducible refine zI (f:=12) rfl ?_);refine ye (some 4) rfl rfl Tryd.func12 (by kernel_rfl) rfl #[.string a0] rfl (by (try simp only [zt,zu,zv]);first|done|rfl|(simp only [zw,zx];rfl)|(simp only [ym,yn,zT,zU];rfl)) ?_;(with_reducible refine (spec_NameOK.calls k  a0 false _ A2.out).mono ?_);rintro e w' ⟨rfl,⟨nd,rfl⟩⟩;refine ⟨_,rfl,?_⟩))
 go_ret
 exact ⟨by first|rfl|(simp;done)|(simp [*];done),by repeat (first|exact yk _|apply yl)⟩

end Go.Proofs.YtmhomllbfblmjaaDoor.Q
end
section
namespace Go.Proofs.YtmhomllbfblmjaaDoor.Q
open Go.RowKit Go.Proofs.YtmhomllbfblmjaaDoorW.PrintWords Go.Proofs.YtmhomllbfblmjaaDoorW.PrintLast Go.Proofs.YtmhomllbfblmjaaDoorW.PrintMore
attribute [local go_sem] max2_int min2_int max_two min_two max_three min_three max_four min_four max2_str min2_str str_geq str_gtr str_leq   -- for this text's walks alone
set_option linter.unusedVariables false
set_option linter.unusedSimpArgs false

mutual
def spec_PathOK.j0 : Nat→List ByteArray→Bool→Option (Bool)
 | 0,_,_ => none
 | k + 1,x3,x17 => if x17=true then (some false) else (spec_PathOK.l0 k x3 0)
def spec_PathOK.l0 : Nat→List ByteArray→Int→Option (Bool)
 | 0,_,_ => none
 | k + 1,x3,x4 => if x4<(x3.length : Int) then (if 0≤x4 then ((spec_l01Name.f k (rdOf ByteArray.empty x3 x4)).bind fun t119 => (if t119=true then (spec_PathOK.l0 k x3 (wrap64 (x4 + 1))) else (some false))) else (none)) else (some true)
end
def spec_PathOK.f (k : Nat) (a0 : ByteArray) : Option (Bool):=if (a0.size : Int) > 65536 then (some false) else ((spec_l00Cut.f k a0 46).bind fun t115 => (if (t115.length : Int) > 4 then (spec_PathOK.j0 k t115 true) else (spec_PathOK.j0 k t115 (decide ((a0.size : Int) > 50)))))
theorem spec_PathOK.mono_l : ∀ k,(∀ y0 y1,LeO (spec_PathOK.j0 k y0 y1) (spec_PathOK.j0 (k + 1) y0 y1))∧(∀ y0 y1,LeO (spec_PathOK.l0 k y0 y1) (spec_PathOK.l0 (k + 1) y0 y1))
 | 0 => ⟨fun _ _ r h => by simp [spec_PathOK.j0] at h,fun _ _ r h => by simp [spec_PathOK.l0] at h⟩
 | k + 1 => by
  obtain ⟨ih0,ih1⟩:=spec_PathOK.mono_l k;refine ⟨?_,?_⟩
  ·
   intro y0 y1
   unfold spec_PathOK.j0
   repeat' first|(with_reducible exact ih0 _ _)|(with_reducible exact ih1 _ _)|(with_reducible exact spec_l00Cut.mono _ _ _)|(with_reducible exact spec_l01Name.mono _ _)|(with_reducible exact zO _)|(with_reducible exact zL _)|(with_reducible refine zN ?_ ?_)|(with_reducible refine zM ?_ (fun _ => ?_))|refine zN ?_ ?_|refine zM ?_ (fun _ => ?_)
  intro y0 y1;unfold spec_PathOK.l0
  repeat' first|(with_reducible exact ih0 _ _)|(with_reducible exact ih1 _ _)|(with_reducible exact spec_l00Cut.mono _ _ _)|(with_reducible exact spec_l01Name.mono _ _)|(with_reducible exact zO _)|(with_reducible exact zL _)|(with_reducible refine zN ?_ ?_)|(with_reducible refine zM ?_ (fun _ => ?_))|refine zN ?_ ?_|refine zM ?_ (fun _ => ?_)
theorem spec_PathOK.mono : ∀ a0 k,LeO (spec_PathOK.f k a0) (spec_PathOK.f (k + 1) a0):=by
 intro a0 k;obtain ⟨ih0,ih1⟩:=spec_PathOK.mono_l k;unfold spec_PathOK.f
 repeat' first|(with_reducible exact ih0 _ _)|(with_reducible exact ih1 _ _)|(with_reducible exact spec_l00Cut.mono _ _ _)|(with_reducible exact spec_l01Name.mono _ _)|(with_reducible exact zO _)|(with_reducible exact zL _)|(with_reducible refine zN ?_ ?_)|(with_reducible refine zM ?_ (fun _ => ?_))|refine zN ?_ ?_|refine zM ?_ (fun _ => ?_)
set_option maxHeartbeats 8000000 in
set_option maxRecDepth 100000 in
theorem spec_PathOK.calls (k : Nat) (a0 : ByteArray) (r : Bool) (w : World) (h : spec_PathOK.f k a0=some r) :
  Calls Tryd.prog 4 #[.string a0] w fun e w' => e = .returned (.bool r)∧Below w.heap.size w w':=by
 have HB:=zh (Below.refl w.heap.size w);have H : (if (a0.size : Int) > 65536 then (some false) else ((spec_l00Cut.f k a0 46).bind fun t115 => (if (t115.length : Int) > 4 then (spec_PathOK.j0 k t115 true) else (spec_PathOK.j0 k t115 (decide ((a0.size : Int) > 50))))))=some r:=h;clear h
 by_cases c2 : (a0.size : Int) > 65536
 ·
  rw [if_pos c2] at H
  have c2b0 : decide (65536<(a0.size : Int))=true:=decide_eq_true c2;have c2b1 : decide (65536<a0.size)=true:=decide_eq_true (by omega);clear c2;obtain rfl:=zS H
  go_enter Tryd.func4,Tryd.ntmps4
  go_wp2
  go_ret
  exact ⟨by first|rfl|(simp [yo,yp] <;> rfl)|(simp [*,yo,yp] <;> rfl),by repeat (with_reducible first|exact HB.out|apply za|apply zb|apply zc)⟩
 rw [if_neg c2] at H;have c2b0 : decide (65536<(a0.size : Int))=false:=decide_eq_false c2;have c2b1 : decide (65536<a0.size)=false:=decide_eq_false (by omega);clear c2;replace H:=zR.mp H;obtain ⟨t115,A30,H⟩:=H;replace H : (if (t115.length : Int) > 4 then (spec_PathOK.j0 k t115 true) else (spec_PathOK.j0 k t115 (decide ((a0.size : Int) > 50))))=some r:=H;have A3:=zh A30;clear A30;have HC4:=zh H;clear H
 go_enter Tryd.func4,Tryd.ntmps4
 go_upto_region 4 with (first|((with_reducible refine zI (f:=6) rfl ?_);refine ye (some 9) rfl rfl Tryd.func6 (by kernel_rfl) rfl #[.string a0,.int .u8 46] rfl (by (try simp only [zt,zu,zv]);first|done|rfl|(simp only [zw,zx];rfl)|(simp only [ym,yn,zT,zU];rfl)) ?_;(with_reducible refine (spec_l00Cut.calls k  a0 46 t115 _ A3.out).mono ?_);rintro e w5 ⟨v116,rfl,ho0,hb⟩;refine ⟨_,rfl,?_⟩;have HO117:=zh (ys ho0 (zB (by repeat (with_reducible first|exact HB.out|apply za|apply zb|apply zc))));replace HB:=zh (zC (by repeat (with_reducible first|exact HB.out|apply za|apply zb|apply zc)) hb);(try clear hb);(try clear hb2);(try clear hk);(try clear hi);(try clear ho0)))
 (try simp only [Act.put,zi,zj,zk])
 go_cut [17] (fun v17 wc => ∃ (kq : Nat) (x17_3 : Bool),v17 = .bool x17_3∧Aside0 (spec_PathOK.j0 kq t115 x17_3=some r)∧Aside0 (kq≤k)∧Aside0 (Kd.R Kd.string 9 wc w.heap.size (fun _ => True) v116 t115)∧Aside0 (Below w.heap.size w wc))
 case first =>
  have H:=HC4.out;clear HC4
  by_cases c6 : (t115.length : Int) > 4
  ·
   rw [if_pos c6] at H
   have c6b0 : decide (4<(t115.length : Int))=true:=decide_eq_true c6;have c6b1 : decide (4<t115.length)=true:=decide_eq_true (by omega);clear c6;(first|rw [c6b0]|(simp only [zF,zG];rw [c6b0])|skip);have H':=zh H;clear H;obtain ⟨Ao7,co7,eo7⟩:=yf HO117.out;subst eo7
   go_wp2
   go_meet
   case rel => exact ⟨_,(true),(by first|rfl|(simp;done)|(simp [*];done)),H',⟨by first|omega|exact yb _⟩,⟨by (with_reducible repeat (first|apply zm|apply zn|apply zo));exact HO117.out⟩,⟨by repeat (with_reducible first|exact HB.out|apply za|apply zb|apply zc)⟩⟩
  rw [if_neg c6] at H;have c6b0 : decide (4<(t115.length : Int))=false:=decide_eq_false c6;have c6b1 : decide (4<t115.length)=false:=decide_eq_false (by omega);clear c6;(first|rw [c6b0]|(simp only [zF,zG];rw [c6b0])|skip);have H':=zh H;clear H;obtain ⟨Ao8,co8,eo8⟩:=yf HO117.out;subst eo8
  go_wp2
  go_meet
  case rel => exact ⟨_,(decide ((a0.size : Int) > 50)),(by first|rfl|(simp;done)|(simp [*];done)),H',⟨by first|omega|exact yb _⟩,⟨by (with_reducible repeat (first|apply zm|apply zn|apply zo));exact HO117.out⟩,⟨by repeat (with_reducible first|exact HB.out|apply za|apply zb|apply zc)⟩⟩
 case rest =>
  clear HC4
  try clear c2
  try clear c2b0
  try clear c2b1
  try clear p2
  try clear c4
  try clear c6
  try clear c6b0
  try clear c6b1
  obtain ⟨kq,x17_3,rfl,HA,HJ3,HO_3,HB⟩:=hcut
  cases kq with
  | zero => exact absurd HA.out (by simp [spec_PathOK.j0])
  | succ kj3 =>
   have H:=HA.out;clear HA;simp only [spec_PathOK.j0] at H
   by_cases c9 : x17_3=true
   ·
    subst c9
    have H1 : (some false)=some r:=by rw [if_pos rfl] at H;exact H
    clear H;have H:=H1;clear H1;obtain rfl:=zS H
    go_wp2
    go_ret
    exact ⟨by first|rfl|(simp [yo,yp] <;> rfl)|(simp [*,yo,yp] <;> rfl),by repeat (with_reducible first|exact HB.out|apply za|apply zb|apply zc)⟩
   replace c9:=zZ.mpr c9;subst c9;have H1 : (spec_PathOK.l0 kj3 t115 0)=some r:=by rw [if_neg (show ¬ (false=true) by decide)] at H;exact H
   clear H;have H:=H1;clear H1;have H':=zh H;clear H
   go_wp2
   go_loopg [4] kj3 (fun kq v4 w' => ∃ (x4_2 : Int),v4 = .int .i64 x4_2∧Aside0 (spec_PathOK.l0 kq t115 x4_2=some r)∧Aside0 (kq≤kj3)∧Aside0 (Kd.R Kd.string 9 w' w.heap.size (fun _ => True) v116 t115)∧Aside0 (Below w.heap.size w w'))
   case atStart => exact ⟨(0),(by first|rfl|(simp;done)|(simp [*];done)),H',⟨yb _⟩,⟨by (with_reducible repeat (first|apply zm|apply zn|apply zo));exact HO_3.out⟩,⟨by repeat (with_reducible first|exact HB.out|apply za|apply zb|apply zc)⟩⟩
   case round =>
    clear H'
    try clear c2
    try clear c2b0
    try clear c2b1
    try clear p2
    try clear c4
    try clear c6
    try clear c6b0
    try clear c6b1
    try clear c9
    try clear p2
    obtain ⟨x4_2,rfl,HA,HK2,HO_3,HB⟩:=hrel
    cases gk with
    | zero => exact absurd HA.out (by simp [spec_PathOK.l0])
    | succ k2 =>
     have H:=HA.out;clear HA;simp only [spec_PathOK.l0] at H
     by_cases c10 : x4_2<(t115.length : Int)
     ·
      rw [if_pos c10] at H
      have c10b0 : decide (x4_2<(t115.length : Int))=true:=decide_eq_true c10;clear c10
      by_cases c11 : 0≤x4_2
      ·
       rw [if_pos c11] at H
       have c11b0 : decide (0≤x4_2)=true:=decide_eq_true c11;clear c11;replace H:=zR.mp H;obtain ⟨t119,A120,H⟩:=H;replace H : (if t119=true then (spec_PathOK.l0 k2 t115 (wrap64 (x4_2 + 1))) else (some false))=some r:=H;have A12:=zh A120;clear A120
       by_cases c13 : t119=true
       ·
        subst c13
        have H1 : (spec_PathOK.l0 k2 t115 (wrap64 (x4_2 + 1)))=some r:=by rw [if_pos rfl] at H;exact H
        clear H;have H:=H1;clear H1;have H':=zh H;clear H;obtain ⟨Ao14,co14,eo14⟩:=yf HO_3.out;subst eo14;have p118 : 0≤(x4_2 : Int):=zy (by first|(with_reducible assumption)|assumption);have q118 : x4_2<(t115.length : Int):=zy (by first|(with_reducible assumption)|assumption);obtain ⟨ad118,e118,hx118_0⟩:=Kd.at_string (yc HO_3.out).2.2 x4_2 p118 q118
        cases e118
        replace p118:=eq_true p118;replace q118:=eq_true q118
        go_wp2_with (first|((with_reducible refine zI (f:=7) rfl ?_);refine ye (some 28) rfl rfl Tryd.func7 (by kernel_rfl) rfl #[.string (rdOf ByteArray.empty t115 x4_2)] rfl (by (try simp only [zt,zu,zv]);first|done|rfl|(simp only [zw,zx];rfl)|(simp only [ym,yn,zT,zU];rfl)) ?_;(with_reducible refine (spec_l01Name.calls k2  (rdOf ByteArray.empty t115 x4_2) true _ A12.out).mono ?_);rintro e w' ⟨rfl,⟨nd,rfl⟩⟩;refine ⟨_,rfl,?_⟩))
        go_roundg k2
        case measure => have:=HJ3.out;have:=HK2.out;omega
        case rel => exact ⟨(wrap64 (x4_2 + 1)),(by first|rfl|(simp;done)|(simp [*];done)),H',⟨by have:=HJ3.out;have:=HK2.out;omega⟩,⟨by (with_reducible repeat (first|apply zm|apply zn|apply zo));exact HO_3.out⟩,⟨by repeat (with_reducible first|exact HB.out|apply za|apply zb|apply zc)⟩⟩
       replace c13:=zZ.mpr c13;subst c13;have H1 : (some false)=some r:=by rw [if_neg (show ¬ (false=true) by decide)] at H;exact H
       clear H;have H:=H1;clear H1;obtain rfl:=zS H;obtain ⟨Ao15,co15,eo15⟩:=yf HO_3.out;subst eo15;have p118 : 0≤(x4_2 : Int):=zy (by first|(with_reducible assumption)|assumption);have q118 : x4_2<(t115.length : Int):=zy (by first|(with_reducible assumption)|assumption);obtain ⟨ad118,e118,hx118_0⟩:=Kd.at_string (yc HO_3.out).2.2 x4_2 p118 q118
       cases e118
       replace p118:=eq_true p118;replace q118:=eq_true q118
       go_wp2_with (first|((with_reducible refine zI (f:=7) rfl ?_);refine ye (some 28) rfl rfl Tryd.func7 (by kernel_rfl) rfl #[.string (rdOf ByteArray.empty t115 x4_2)] rfl (by (try simp only [zt,zu,zv]);first|done|rfl|(simp only [zw,zx];rfl)|(simp only [ym,yn,zT,zU];rfl)) ?_;(with_reducible refine (spec_l01Name.calls k2  (rdOf ByteArray.empty t115 x4_2) false _ A12.out).mono ?_);rintro e w' ⟨rfl,⟨nd,rfl⟩⟩;refine ⟨_,rfl,?_⟩))
       go_ret
       exact ⟨by first|rfl|(simp [yo,yp] <;> rfl)|(simp [*,yo,yp] <;> rfl),by repeat (with_reducible first|exact HB.out|apply za|apply zb|apply zc)⟩
      rw [if_neg c11] at H;exact absurd H (by simp)
     rw [if_neg c10] at H;have c10b0 : decide (x4_2<(t115.length : Int))=false:=decide_eq_false c10;clear c10;obtain rfl:=zS H;obtain ⟨Ao16,co16,eo16⟩:=yf HO_3.out;subst eo16
     go_wp2
     go_ret
     exact ⟨by first|rfl|(simp [yo,yp] <;> rfl)|(simp [*,yo,yp] <;> rfl),by repeat (with_reducible first|exact HB.out|apply za|apply zb|apply zc)⟩

end Go.Proofs.YtmhomllbfblmjaaDoor.Q
end
section
namespace Go.Proofs.YtmhomllbfblmjaaDoor.Q
open Go.RowKit Go.Proofs.YtmhomllbfblmjaaDoorW.PrintWords Go.Proofs.YtmhomllbfblmjaaDoorW.PrintLast Go.Proofs.YtmhomllbfblmjaaDoorW.PrintMore
attribute [local go_sem] max2_int min2_int max_two min_two max_three min_three max_four min_four max2_str min2_str str_geq str_gtr str_leq
set_option linter.unusedVariables false
set_option linter.unusedSimpArgs false

def strings_Split.f (a0 : ByteArray) (a1 : ByteArray) : Option (List ByteArray):=if a1.size=1 then (if a0.size<4294967281 then (some (pieces a0 a1)) else (none)) else (none)
theorem strings_Split.calls (a0 : ByteArray) (a1 : ByteArray) (r : List ByteArray) (w : World) (h : strings_Split.f a0 a1=some r) :
  Calls Tryd.prog 8 #[.string a0,.string a1] w fun e w' => ∃ v0_ : Value,e = .returned (v0_)∧Kd.R Kd.string 9 w' w.heap.size (fun _ => True) v0_ r∧Below w.heap.size w w':=by
 unfold strings_Split.f at h
 by_cases h0 : a1.size=1
 ·
  rw [if_pos h0] at h
  by_cases h1 : a0.size<4294967281
  ·
   rw [if_pos h1] at h
   obtain rfl:=zS h;obtain ⟨c,rfl⟩:=Lib.one_byte a1 h0;exact split_one a0 c w h1
  rw [if_neg h1] at h;exact absurd h (by simp)
 rw [if_neg h0] at h;exact absurd h (by simp)

end Go.Proofs.YtmhomllbfblmjaaDoor.Q
end
section
namespace Go.Proofs.YtmhomllbfblmjaaDoor.Q
open Go.RowKit Go.Proofs.YtmhomllbfblmjaaDoorW.PrintWords Go.Proofs.YtmhomllbfblmjaaDoorW.PrintLast Go.Proofs.YtmhomllbfblmjaaDoorW.PrintMore
attribute [local go_sem] max2_int min2_int max_two min_two max_three min_three max_four min_four max2_str min2_str str_geq str_gtr str_leq   -- for this text's walks alone
set_option linter.unusedVariables false
set_option linter.unusedSimpArgs false

def impl_isLetter.f (a0 : Int) : Option (Bool):=if a0 ≥ 97 then (if a0≤122 then (some true) else (if a0 ≥ 65 then (if a0≤90 then (some true) else (some (a0 == 95))) else (some (a0 == 95)))) else (if a0 ≥ 65 then (if a0≤90 then (some true) else (some (a0 == 95))) else (some (a0 == 95)))
set_option maxHeartbeats 8000000 in
set_option maxRecDepth 100000 in
theorem impl_isLetter.calls (a0 : Int) (r : Bool) (w : World) (h : impl_isLetter.f a0=some r) :
  Calls Tryd.prog 20 #[.int .u8 a0] w fun e w' => e = .returned (.bool r)∧Drawn0 w w':=by
 have H : (if a0 ≥ 97 then (if a0≤122 then (some true) else (if a0 ≥ 65 then (if a0≤90 then (some true) else (some (a0 == 95))) else (some (a0 == 95)))) else (if a0 ≥ 65 then (if a0≤90 then (some true) else (some (a0 == 95))) else (some (a0 == 95))))=some r:=h;clear h
 by_cases c2 : a0 ≥ 97
 ·
  rw [if_pos c2] at H
  have c2b0 : decide (97≤a0)=true:=decide_eq_true c2;clear c2
  by_cases c3 : a0≤122
  ·
   rw [if_pos c3] at H
   have c3b0 : decide (a0≤122)=true:=decide_eq_true c3;clear c3;obtain rfl:=zS H
   go_enter Tryd.func20,Tryd.ntmps20
   go_wp2
   go_ret
   exact ⟨by first|rfl|(simp;done)|(simp [*];done),by repeat (first|exact yk _|apply yl)⟩
  rw [if_neg c3] at H;have c3b0 : decide (a0≤122)=false:=decide_eq_false c3;clear c3
  by_cases c4 : a0 ≥ 65
  ·
   rw [if_pos c4] at H
   have c4b0 : decide (65≤a0)=true:=decide_eq_true c4;clear c4
   by_cases c5 : a0≤90
   ·
    rw [if_pos c5] at H
    have c5b0 : decide (a0≤90)=true:=decide_eq_true c5;clear c5;obtain rfl:=zS H
    go_enter Tryd.func20,Tryd.ntmps20
    go_wp2
    go_ret
    exact ⟨by first|rfl|(simp;done)|(simp [*];done),by repeat (first|exact yk _|apply yl)⟩
   rw [if_neg c5] at H;have c5b0 : decide (a0≤90)=false:=decide_eq_false c5;clear c5;obtain rfl:=zS H
   go_enter Tryd.func20,Tryd.ntmps20
   go_wp2
   go_ret
   exact ⟨by first|rfl|(simp;done)|(simp [*];done),by repeat (first|exact yk _|apply yl)⟩
  rw [if_neg c4] at H;have c4b0 : decide (65≤a0)=false:=decide_eq_false c4;clear c4;obtain rfl:=zS H
  go_enter Tryd.func20,Tryd.ntmps20
  go_wp2
  go_ret
  exact ⟨by first|rfl|(simp;done)|(simp [*];done),by repeat (first|exact yk _|apply yl)⟩
 rw [if_neg c2] at H;have c2b0 : decide (97≤a0)=false:=decide_eq_false c2;clear c2
 by_cases c6 : a0 ≥ 65
 ·
  rw [if_pos c6] at H
  have c6b0 : decide (65≤a0)=true:=decide_eq_true c6;clear c6
  by_cases c7 : a0≤90
  ·
   rw [if_pos c7] at H
   have c7b0 : decide (a0≤90)=true:=decide_eq_true c7;clear c7;obtain rfl:=zS H
   go_enter Tryd.func20,Tryd.ntmps20
   go_wp2
   go_ret
   exact ⟨by first|rfl|(simp;done)|(simp [*];done),by repeat (first|exact yk _|apply yl)⟩
  rw [if_neg c7] at H;have c7b0 : decide (a0≤90)=false:=decide_eq_false c7;clear c7;obtain rfl:=zS H
  go_enter Tryd.func20,Tryd.ntmps20
  go_wp2
  go_ret
  exact ⟨by first|rfl|(simp;done)|(simp [*];done),by repeat (first|exact yk _|apply yl)⟩
 rw [if_neg c6] at H;have c6b0 : decide (65≤a0)=false:=decide_eq_false c6;clear c6;obtain rfl:=zS H
 go_enter Tryd.func20,Tryd.ntmps20
 go_wp2
 go_ret
 exact ⟨by first|rfl|(simp;done)|(simp [*];done),by repeat (first|exact yk _|apply yl)⟩

end Go.Proofs.YtmhomllbfblmjaaDoor.Q
end
section
namespace Go.Proofs.YtmhomllbfblmjaaDoor.Q
open Go.RowKit Go.Proofs.YtmhomllbfblmjaaDoorW.PrintWords Go.Proofs.YtmhomllbfblmjaaDoorW.PrintLast Go.Proofs.YtmhomllbfblmjaaDoorW.PrintMore
attribute [local go_sem] max2_int min2_int max_two min_two max_three min_three max_four min_four max2_str min2_str str_geq str_gtr str_leq   -- for this text's walks alone
set_option linter.unusedVariables false
set_option linter.unusedSimpArgs false

def impl_isDigit.f (a0 : Int) : Option (Bool):=if a0 ≥ 48 then (some (decide (a0≤57))) else (some false)
set_option maxHeartbeats 8000000 in
set_option maxRecDepth 100000 in
theorem impl_isDigit.calls (a0 : Int) (r : Bool) (w : World) (h : impl_isDigit.f a0=some r) :
  Calls Tryd.prog 21 #[.int .u8 a0] w fun e w' => e = .returned (.bool r)∧Drawn0 w w':=by
 have H : (if a0 ≥ 48 then (some (decide (a0≤57))) else (some false))=some r:=h;clear h
 by_cases c2 : a0 ≥ 48
 ·
  rw [if_pos c2] at H
  have c2b0 : decide (48≤a0)=true:=decide_eq_true c2;clear c2;obtain rfl:=zS H
  go_enter Tryd.func21,Tryd.ntmps21
  go_wp2
  go_ret
  exact ⟨by first|rfl|(simp;done)|(simp [*];done),by repeat (first|exact yk _|apply yl)⟩
 rw [if_neg c2] at H;have c2b0 : decide (48≤a0)=false:=decide_eq_false c2;clear c2;obtain rfl:=zS H
 go_enter Tryd.func21,Tryd.ntmps21
 go_wp2
 go_ret
 exact ⟨by first|rfl|(simp;done)|(simp [*];done),by repeat (first|exact yk _|apply yl)⟩

end Go.Proofs.YtmhomllbfblmjaaDoor.Q
end
section
namespace Go.Proofs.YtmhomllbfblmjaaDoor.Q
open Go.RowKit Go.Proofs.YtmhomllbfblmjaaDoorW.PrintWords Go.Proofs.YtmhomllbfblmjaaDoorW.PrintLast Go.Proofs.YtmhomllbfblmjaaDoorW.PrintMore
attribute [local go_sem] max2_int min2_int max_two min_two max_three min_three max_four min_four max2_str min2_str str_geq str_gtr str_leq   -- for this text's walks alone
set_option linter.unusedVariables false
set_option linter.unusedSimpArgs false

def impl_inRange.f (a0 : Int) (a1 : Int) (a2 : Int) : Option (Bool):=if a1≤a0 then (some (decide (a0≤a2))) else (some false)
set_option maxHeartbeats 8000000 in
set_option maxRecDepth 100000 in
theorem impl_inRange.calls (a0 : Int) (a1 : Int) (a2 : Int) (r : Bool) (w : World) (h : impl_inRange.f a0 a1 a2=some r) :
  Calls Tryd.prog 22 #[.int .i64 a0,.int .i64 a1,.int .i64 a2] w fun e w' => e = .returned (.bool r)∧Drawn0 w w':=by
 have H : (if a1≤a0 then (some (decide (a0≤a2))) else (some false))=some r:=h;clear h
 by_cases c4 : a1≤a0
 ·
  rw [if_pos c4] at H
  have c4b0 : decide (a1≤a0)=true:=decide_eq_true c4;clear c4;obtain rfl:=zS H
  go_enter Tryd.func22,Tryd.ntmps22
  go_wp2
  go_ret
  exact ⟨by first|rfl|(simp;done)|(simp [*];done),by repeat (first|exact yk _|apply yl)⟩
 rw [if_neg c4] at H;have c4b0 : decide (a1≤a0)=false:=decide_eq_false c4;clear c4;obtain rfl:=zS H
 go_enter Tryd.func22,Tryd.ntmps22
 go_wp2
 go_ret
 exact ⟨by first|rfl|(simp;done)|(simp [*];done),by repeat (first|exact yk _|apply yl)⟩

end Go.Proofs.YtmhomllbfblmjaaDoor.Q
end
section
namespace Go.Proofs.YtmhomllbfblmjaaDoor.Q
open Go.RowKit Go.Proofs.YtmhomllbfblmjaaDoorW.PrintWords Go.Proofs.YtmhomllbfblmjaaDoorW.PrintLast Go.Proofs.YtmhomllbfblmjaaDoorW.PrintMore
attribute [local go_sem] max2_int min2_int max_two min_two max_three min_three max_four min_four max2_str min2_str str_geq str_gtr str_leq   -- for this text's walks alone
set_option linter.unusedVariables false
set_option linter.unusedSimpArgs false

def impl_NameOK.l0 : Nat→ByteArray→Int→Int→Option (Bool)
 | 0,_,_,_ => none
 | k + 1,x0,x5,x6 => if x6<x5 then (if 0≤x6 then (if x6<(x0.size : Int) then ((impl_isLetter.f (bt x0 x6)).bind fun t121 => (if t121=true then (impl_NameOK.l0 k x0 x5 (wrap64 (x6 + 1))) else ((impl_isDigit.f (bt x0 x6)).bind fun t122 => (if t122=true then (if x6=0 then (some false) else (impl_NameOK.l0 k x0 x5 (wrap64 (x6 + 1)))) else (some false))))) else (none)) else (none)) else ((impl_inRange.f (x0.size : Int) 1 40).bind fun t120 => (some t120))
def impl_NameOK.f (k : Nat) (a0 : ByteArray) : Option (Bool):=impl_NameOK.l0 k a0 (a0.size : Int) 0
theorem impl_NameOK.mono_l : ∀ k,(∀ y0 y1 y2,LeO (impl_NameOK.l0 k y0 y1 y2) (impl_NameOK.l0 (k + 1) y0 y1 y2))
 | 0 => fun _ _ _ r h => by simp [impl_NameOK.l0] at h
 | k + 1 => by
  have ih0:=impl_NameOK.mono_l k;intro y0 y1 y2;unfold impl_NameOK.l0
  repeat' first|(with_reducible exact ih0 _ _ _)|(with_reducible exact zO _)|(with_reducible exact zL _)|(with_reducible refine zN ?_ ?_)|(with_reducible refine zM ?_ (fun _ => ?_))|refine zN ?_ ?_|refine zM ?_ (fun _ => ?_)
theorem impl_NameOK.mono : ∀ a0 k,LeO (impl_NameOK.f k a0) (impl_NameOK.f (k + 1) a0):=by
 intro a0 k;have ih0:=impl_NameOK.mono_l k;unfold impl_NameOK.f
 repeat' first|(with_reducible exact ih0 _ _ _)|(with_reducible exact zO _)|(with_reducible exact zL _)|(with_reducible refine zN ?_ ?_)|(with_reducible refine zM ?_ (fun _ => ?_))|refine zN ?_ ?_|refine zM ?_ (fun _ => ?_)
set_option maxHeartbeats 8000000 in
set_option maxRecDepth 100000 in
theorem impl_NameOK.calls (k : Nat) (a0 : ByteArray) (r : Bool) (w : World) (h : impl_NameOK.f k a0=some r) :
  Calls Tryd.prog 15 #[.string a0] w fun e w' => e = .returned (.bool r)∧Drawn0 w w':=by
 have H : (impl_NameOK.l0 k a0 (a0.size : Int) 0)=some r:=h;clear h;have H':=zh H;clear H
 go_enter Tryd.func15,Tryd.ntmps15
 go_wp2
 go_loopg [6] k (fun kq v6 w' => ∃ (x6_1 : Int),v6 = .int .i64 x6_1∧Aside0 (impl_NameOK.l0 kq a0 (a0.size : Int) x6_1=some r)∧Aside0 (kq≤k)∧Drawn0 w w')
 case atStart => exact ⟨(0),(by first|rfl|(simp;done)|(simp [*];done)),H',⟨yb _⟩,by repeat (first|exact yk _|apply yl)⟩
 case round =>
  clear H'
  try clear c1
  obtain ⟨x6_1,rfl,HA,HK1,⟨m1,rfl⟩⟩:=hrel
  cases gk with
  | zero => exact absurd HA.out (by simp [impl_NameOK.l0])
  | succ k1 =>
   have H:=HA.out;clear HA;simp only [impl_NameOK.l0] at H
   by_cases c2 : x6_1<(a0.size : Int)
   ·
    rw [if_pos c2] at H
    have c2b0 : decide (x6_1<(a0.size : Int))=true:=decide_eq_true c2;clear c2
    by_cases c3 : 0≤x6_1
    ·
     rw [if_pos c3] at H
     have c3b0 : decide (0≤x6_1)=true:=decide_eq_true c3;clear c3
     by_cases c4 : x6_1<(a0.size : Int)
     ·
      rw [if_pos c4] at H
      have c4b0 : decide (x6_1<(a0.size : Int))=true:=decide_eq_true c4;clear c4;replace H:=zR.mp H;obtain ⟨t121,A60,H⟩:=H;replace H : (if t121=true then (impl_NameOK.l0 k1 a0 (a0.size : Int) (wrap64 (x6_1 + 1))) else ((impl_isDigit.f (bt a0 x6_1)).bind fun t122 => (if t122=true then (if x6_1=0 then (some false) else (impl_NameOK.l0 k1 a0 (a0.size : Int) (wrap64 (x6_1 + 1)))) else (some false))))=some r:=H;have A6:=zh A60;clear A60
      by_cases c7 : t121=true
      ·
       subst c7
       have H1 : (impl_NameOK.l0 k1 a0 (a0.size : Int) (wrap64 (x6_1 + 1)))=some r:=by rw [if_pos rfl] at H;exact H
       clear H;have H:=H1;clear H1;have H':=zh H;clear H;have p5 : 0≤(x6_1 : Int):=zy (by first|(with_reducible assumption)|assumption);have q5 : x6_1<(a0.size : Int):=zy (by first|(with_reducible assumption)|assumption);have hx5:=bt_at a0 x6_1;replace p5:=eq_true p5;replace q5:=eq_true q5
       go_wp2_with (first|((with_reducible refine zI (f:=20) rfl ?_);refine ye (some 12) rfl rfl Tryd.func20 (by kernel_rfl) rfl #[.int .u8 (bt a0 x6_1)] rfl (by (try simp only [zt,zu,zv]);first|done|rfl|(simp only [zw,zx];rfl)|(simp only [ym,yn,zT,zU];rfl)) ?_;(with_reducible refine (impl_isLetter.calls  (bt a0 x6_1) true _ A6.out).mono ?_);rintro e w' ⟨rfl,⟨nd,rfl⟩⟩;refine ⟨_,rfl,?_⟩))
       go_roundg k1
       case measure => have:=HK1.out;omega
       case rel => exact ⟨(wrap64 (x6_1 + 1)),(by first|rfl|(simp;done)|(simp [*];done)),H',⟨by have:=HK1.out;omega⟩,by repeat (first|exact yk _|apply yl)⟩
      replace c7:=zZ.mpr c7;subst c7;have H1 : ((impl_isDigit.f (bt a0 x6_1)).bind fun t122 => (if t122=true then (if x6_1=0 then (some false) else (impl_NameOK.l0 k1 a0 (a0.size : Int) (wrap64 (x6_1 + 1)))) else (some false)))=some r:=by rw [if_neg (show ¬ (false=true) by decide)] at H;exact H
      clear H;have H:=H1;clear H1;replace H:=zR.mp H;obtain ⟨t122,A90,H⟩:=H;replace H : (if t122=true then (if x6_1=0 then (some false) else (impl_NameOK.l0 k1 a0 (a0.size : Int) (wrap64 (x6_1 + 1)))) else (some false))=some r:=H;have A9:=zh A90;clear A90
      by_cases c10 : t122=true
      ·
       subst c10
       have H1 : (if x6_1=0 then (some false) else (impl_NameOK.l0 k1 a0 (a0.size : Int) (wrap64 (x6_1 + 1))))=some r:=by rw [if_pos rfl] at H;exact H
       clear H;have H:=H1;clear H1
       by_cases c11 : x6_1=0
       ·
        rw [if_pos c11] at H
        have c11b0 : (x6_1 == 0)=true:=zY.mpr c11;have c11b1 : (x6_1 != 0)=false:=zV.mpr c11;clear c11;obtain rfl:=zS H;have p5 : 0≤(x6_1 : Int):=zy (by first|(with_reducible assumption)|assumption);have q5 : x6_1<(a0.size : Int):=zy (by first|(with_reducible assumption)|assumption);have hx5:=bt_at a0 x6_1;replace p5:=eq_true p5;replace q5:=eq_true q5
        go_wp2_with (first|((with_reducible refine zI (f:=20) rfl ?_);refine ye (some 12) rfl rfl Tryd.func20 (by kernel_rfl) rfl #[.int .u8 (bt a0 x6_1)] rfl (by (try simp only [zt,zu,zv]);first|done|rfl|(simp only [zw,zx];rfl)|(simp only [ym,yn,zT,zU];rfl)) ?_;(with_reducible refine (impl_isLetter.calls  (bt a0 x6_1) false _ A6.out).mono ?_);rintro e w' ⟨rfl,⟨nd,rfl⟩⟩;refine ⟨_,rfl,?_⟩;have p8 : 0≤(x6_1 : Int):=zy (by first|(with_reducible assumption)|assumption);have q8 : x6_1<(a0.size : Int):=zy (by first|(with_reducible assumption)|assumption);have hx8:=bt_at a0 x6_1;replace p8:=eq_true p8;replace q8:=eq_true q8)|(go_at_call 21;(with_reducible refine (impl_isDigit.calls  (bt a0 x6_1) true _ A9.out).mono ?_);rintro e w' ⟨rfl,⟨nd,rfl⟩⟩))
        go_ret
        exact ⟨by first|rfl|(simp;done)|(simp [*];done),by repeat (first|exact yk _|apply yl)⟩
       rw [if_neg c11] at H;have c11b0 : (x6_1 == 0)=false:=zW.mpr c11;have c11b1 : (x6_1 != 0)=true:=zX.mpr c11;have H':=zh H;clear H;have p5 : 0≤(x6_1 : Int):=zy (by first|(with_reducible assumption)|assumption);have q5 : x6_1<(a0.size : Int):=zy (by first|(with_reducible assumption)|assumption);have hx5:=bt_at a0 x6_1;replace p5:=eq_true p5;replace q5:=eq_true q5
       go_wp2_with (first|((with_reducible refine zI (f:=20) rfl ?_);refine ye (some 12) rfl rfl Tryd.func20 (by kernel_rfl) rfl #[.int .u8 (bt a0 x6_1)] rfl (by (try simp only [zt,zu,zv]);first|done|rfl|(simp only [zw,zx];rfl)|(simp only [ym,yn,zT,zU];rfl)) ?_;(with_reducible refine (impl_isLetter.calls  (bt a0 x6_1) false _ A6.out).mono ?_);rintro e w' ⟨rfl,⟨nd,rfl⟩⟩;refine ⟨_,rfl,?_⟩;have p8 : 0≤(x6_1 : Int):=zy (by first|(with_reducible assumption)|assumption);have q8 : x6_1<(a0.size : Int):=zy (by first|(with_reducible assumption)|assumption);have hx8:=bt_at a0 x6_1;replace p8:=eq_true p8;replace q8:=eq_true q8)|(go_at_call 21;(with_reducible refine (impl_isDigit.calls  (bt a0 x6_1) true _ A9.out).mono ?_);rintro e w' ⟨rfl,⟨nd,rfl⟩⟩))
       go_roundg k1
       case measure => have:=HK1.out;omega
       case rel => exact ⟨(wrap64 (x6_1 + 1)),(by first|rfl|(simp;done)|(simp [*];done)),H',⟨by have:=HK1.out;omega⟩,by repeat (first|exact yk _|apply yl)⟩
      replace c10:=zZ.mpr c10;subst c10;have H1 : (some false)=some r:=by rw [if_neg (show ¬ (false=true) by decide)] at H;exact H
      clear H;have H:=H1;clear H1;obtain rfl:=zS H;have p5 : 0≤(x6_1 : Int):=zy (by first|(with_reducible assumption)|assumption);have q5 : x6_1<(a0.size : Int):=zy (by first|(with_reducible assumption)|assumption);have hx5:=bt_at a0 x6_1;replace p5:=eq_true p5;replace q5:=eq_true q5
      go_wp2_with (first|((with_reducible refine zI (f:=20) rfl ?_);refine ye (some 12) rfl rfl Tryd.func20 (by kernel_rfl) rfl #[.int .u8 (bt a0 x6_1)] rfl (by (try simp only [zt,zu,zv]);first|done|rfl|(simp only [zw,zx];rfl)|(simp only [ym,yn,zT,zU];rfl)) ?_;(with_reducible refine (impl_isLetter.calls  (bt a0 x6_1) false _ A6.out).mono ?_);rintro e w' ⟨rfl,⟨nd,rfl⟩⟩;refine ⟨_,rfl,?_⟩;have p8 : 0≤(x6_1 : Int):=zy (by first|(with_reducible assumption)|assumption);have q8 : x6_1<(a0.size : Int):=zy (by first|(with_reducible assumption)|assumption);have hx8:=bt_at a0 x6_1;replace p8:=eq_true p8;replace q8:=eq_true q8)|(go_at_call 21;(with_reducible refine (impl_isDigit.calls  (bt a0 x6_1) false _ A9.out).mono ?_);rintro e w' ⟨rfl,⟨nd,rfl⟩⟩))
      go_ret
      exact ⟨by first|rfl|(simp;done)|(simp [*];done),by repeat (first|exact yk _|apply yl)⟩
     rw [if_neg c4] at H;exact absurd H (by simp)
    rw [if_neg c3] at H;exact absurd H (by simp)
   rw [if_neg c2] at H;have c2b0 : decide (x6_1<(a0.size : Int))=false:=decide_eq_false c2;clear c2;replace H:=zR.mp H;obtain ⟨t120,A120,H⟩:=H;replace H : (some t120)=some r:=H;have A12:=zh A120;clear A120;obtain rfl:=zS H
   go_wp2_with (first|((with_reducible refine zI (f:=22) rfl ?_);refine ye (some 28) rfl rfl Tryd.func22 (by kernel_rfl) rfl #[.int .i64 (a0.size : Int),.int .i64 1,.int .i64 40] rfl (by (try simp only [zt,zu,zv]);first|done|rfl|(simp only [zw,zx];rfl)|(simp only [ym,yn,zT,zU];rfl)) ?_;(with_reducible refine (impl_inRange.calls  (a0.size : Int) 1 40 t120 _ A12.out).mono ?_);rintro e w' ⟨rfl,⟨nd,rfl⟩⟩;refine ⟨_,rfl,?_⟩))
   go_ret
   exact ⟨by first|rfl|(simp;done)|(simp [*];done),by repeat (first|exact yk _|apply yl)⟩

end Go.Proofs.YtmhomllbfblmjaaDoor.Q
end
section
namespace Go.Proofs.YtmhomllbfblmjaaDoor.Q
open Go.RowKit Go.Proofs.YtmhomllbfblmjaaDoorW.PrintWords Go.Proofs.YtmhomllbfblmjaaDoorW.PrintLast Go.Proofs.YtmhomllbfblmjaaDoorW.PrintMore
attribute [local go_sem] max2_int min2_int max_two min_two max_three min_three max_four min_four max2_str min2_str str_geq str_gtr str_leq   -- for this text's walks alone
set_option linter.unusedVariables false
set_option linter.unusedSimpArgs false

def impl_isShort.f (k : Nat) (a0 : ByteArray) : Option (Bool):=if (a0.size : Int)≤12 then ((impl_NameOK.f k a0).bind fun t123 => (some t123)) else (some false)
theorem impl_isShort.mono : ∀ a0 k,LeO (impl_isShort.f k a0) (impl_isShort.f (k + 1) a0):=by
 intro a0 k;unfold impl_isShort.f
 repeat' first|(with_reducible exact impl_NameOK.mono _ _)|(with_reducible exact zO _)|(with_reducible exact zL _)|(with_reducible refine zN ?_ ?_)|(with_reducible refine zM ?_ (fun _ => ?_))|refine zN ?_ ?_|refine zM ?_ (fun _ => ?_)
set_option maxHeartbeats 8000000 in
set_option maxRecDepth 100000 in
theorem impl_isShort.calls (k : Nat) (a0 : ByteArray) (r : Bool) (w : World) (h : impl_isShort.f k a0=some r) :
  Calls Tryd.prog 11 #[.string a0] w fun e w' => e = .returned (.bool r)∧Drawn0 w w':=by
 have H : (if (a0.size : Int)≤12 then ((impl_NameOK.f k a0).bind fun t123 => (some t123)) else (some false))=some r:=h;clear h
 by_cases c2 : (a0.size : Int)≤12
 ·
  rw [if_pos c2] at H
  have c2b0 : decide ((a0.size : Int)≤12)=true:=decide_eq_true c2;have c2b1 : decide (a0.size≤12)=true:=decide_eq_true (by omega);clear c2;replace H:=zR.mp H;obtain ⟨t123,A30,H⟩:=H;replace H : (some t123)=some r:=H;have A3:=zh A30;clear A30;obtain rfl:=zS H
  go_enter Tryd.func11,Tryd.ntmps11
  go_wp2_with (first|(go_at_call 15;(with_reducible refine (impl_NameOK.calls k  a0 t123 _ A3.out).mono ?_);rintro e w' ⟨rfl,⟨nd,rfl⟩⟩))
  go_ret
  exact ⟨by first|rfl|(simp;done)|(simp [*];done),by repeat (first|exact yk _|apply yl)⟩
 rw [if_neg c2] at H;have c2b0 : decide ((a0.size : Int)≤12)=false:=decide_eq_false c2;have c2b1 : decide (a0.size≤12)=false:=decide_eq_false (by omega);clear c2;obtain rfl:=zS H
 go_enter Tryd.func11,Tryd.ntmps11
 go_wp2
 go_ret
 exact ⟨by first|rfl|(simp;done)|(simp [*];done),by repeat (first|exact yk _|apply yl)⟩

end Go.Proofs.YtmhomllbfblmjaaDoor.Q
end
section
namespace Go.Proofs.YtmhomllbfblmjaaDoor.Q
open Go.RowKit Go.Proofs.YtmhomllbfblmjaaDoorW.PrintWords Go.Proofs.YtmhomllbfblmjaaDoorW.PrintLast Go.Proofs.YtmhomllbfblmjaaDoorW.PrintMore
attribute [local go_sem] max2_int min2_int max_two min_two max_three min_three max_four min_four max2_str min2_str str_geq str_gtr str_leq   -- for this text's walks alone
set_option linter.unusedVariables false
set_option linter.unusedSimpArgs false

def impl_PathOK_1.f (k : Nat) (a0 : ByteArray) : Option (Bool):=(impl_isShort.f k a0).bind fun t124 => (some (!t124))
theorem impl_PathOK_1.mono : ∀ a0 k,LeO (impl_PathOK_1.f k a0) (impl_PathOK_1.f (k + 1) a0):=by
 intro a0 k;unfold impl_PathOK_1.f
 repeat' first|(with_reducible exact impl_isShort.mono _ _)|(with_reducible exact zO _)|(with_reducible exact zL _)|(with_reducible refine zN ?_ ?_)|(with_reducible refine zM ?_ (fun _ => ?_))|refine zN ?_ ?_|refine zM ?_ (fun _ => ?_)
set_option maxHeartbeats 8000000 in
set_option maxRecDepth 100000 in
theorem impl_PathOK_1.calls (k : Nat) (a0 : ByteArray) (r : Bool) (w : World) (h : impl_PathOK_1.f k a0=some r) :
  Calls Tryd.prog 10 #[.string a0] w fun e w' => e = .returned (.bool r)∧Drawn0 w w':=by
 have H : ((impl_isShort.f k a0).bind fun t124 => (some (!t124)))=some r:=h;clear h;replace H:=zR.mp H;obtain ⟨t124,A20,H⟩:=H;replace H : (some (!t124))=some r:=H;have A2:=zh A20;clear A20;obtain rfl:=zS H
 go_enter Tryd.func10,Tryd.ntmps10
 go_wp2_with (first|((with_reducible refine zI (f:=11) rfl ?_);refine ye (some 4) rfl rfl Tryd.func11 (by kernel_rfl) rfl #[.string a0] rfl (by (try simp only [zt,zu,zv]);first|done|rfl|(simp only [zw,zx];rfl)|(simp only [ym,yn,zT,zU];rfl)) ?_;(with_reducible refine (impl_isShort.calls k  a0 t124 _ A2.out).mono ?_);rintro e w' ⟨rfl,⟨nd,rfl⟩⟩;refine ⟨_,rfl,?_⟩))
 go_ret
 exact ⟨by first|rfl|(simp;done)|(simp [*];done),by repeat (first|exact yk _|apply yl)⟩

end Go.Proofs.YtmhomllbfblmjaaDoor.Q
end
section
namespace Go.Proofs.YtmhomllbfblmjaaDoor.Q
open Go.RowKit Go.Proofs.YtmhomllbfblmjaaDoorW.PrintWords Go.Proofs.YtmhomllbfblmjaaDoorW.PrintLast Go.Proofs.YtmhomllbfblmjaaDoorW.PrintMore
attribute [local go_sem] max2_int min2_int max_two min_two max_three min_three max_four min_four max2_str min2_str str_geq str_gtr str_leq   -- for this text's walks alone
set_option linter.unusedVariables false
set_option linter.unusedSimpArgs false

def slices_IndexFunc_string_string_at_PathOK_1.l0 : Nat→List ByteArray→Int→Int→Option (Int)
 | 0,_,_,_ => none
 | k + 1,x0,x7,x8 => if x8<x7 then (if 0≤x8 then (if x8<(x0.length : Int) then ((impl_PathOK_1.f k (rdOf ByteArray.empty x0 x8)).bind fun t126 => (if t126=true then (some x8) else (slices_IndexFunc_string_string_at_PathOK_1.l0 k x0 x7 (wrap64 (x8 + 1))))) else (none)) else (none)) else (some (-1))
def slices_IndexFunc_string_string_at_PathOK_1.f (k : Nat) (l0 : List ByteArray)  : Option (Int):=slices_IndexFunc_string_string_at_PathOK_1.l0 k l0 (l0.length : Int) 0
theorem slices_IndexFunc_string_string_at_PathOK_1.mono_l : ∀ k,(∀ y0 y1 y2,LeO (slices_IndexFunc_string_string_at_PathOK_1.l0 k y0 y1 y2) (slices_IndexFunc_string_string_at_PathOK_1.l0 (k + 1) y0 y1 y2))
 | 0 => fun _ _ _ r h => by simp [slices_IndexFunc_string_string_at_PathOK_1.l0] at h
 | k + 1 => by
  have ih0:=slices_IndexFunc_string_string_at_PathOK_1.mono_l k;intro y0 y1 y2;unfold slices_IndexFunc_string_string_at_PathOK_1.l0
  repeat' first|(with_reducible exact ih0 _ _ _)|(with_reducible exact impl_PathOK_1.mono _ _)|(with_reducible exact zO _)|(with_reducible exact zL _)|(with_reducible refine zN ?_ ?_)|(with_reducible refine zM ?_ (fun _ => ?_))|refine zN ?_ ?_|refine zM ?_ (fun _ => ?_)
theorem slices_IndexFunc_string_string_at_PathOK_1.mono : ∀ a0 k,LeO (slices_IndexFunc_string_string_at_PathOK_1.f k a0) (slices_IndexFunc_string_string_at_PathOK_1.f (k + 1) a0):=by
 intro a0 k;have ih0:=slices_IndexFunc_string_string_at_PathOK_1.mono_l k;unfold slices_IndexFunc_string_string_at_PathOK_1.f
 repeat' first|(with_reducible exact ih0 _ _ _)|(with_reducible exact impl_PathOK_1.mono _ _)|(with_reducible exact zO _)|(with_reducible exact zL _)|(with_reducible refine zN ?_ ?_)|(with_reducible refine zM ?_ (fun _ => ?_))|refine zN ?_ ?_|refine zM ?_ (fun _ => ?_)
set_option maxHeartbeats 8000000 in
set_option maxRecDepth 100000 in
theorem slices_IndexFunc_string_string_at_PathOK_1.calls (k : Nat) (A0 : Option Addr) (c0 : Nat) (l0 : List ByteArray)  (r : Int) (w : World) (hr0 : Kd.C Kd.string w A0 l0.length l0) (hc0 : l0.length≤c0) (h : slices_IndexFunc_string_string_at_PathOK_1.f k l0=some r) :
  Calls Tryd.prog 14 #[.slice A0 l0.length c0,.func (.func 10) #[] #[]] w fun e w' => e = .returned (.int .i64 r)∧Drawn0 w w':=by
 have HR0:=zh hr0;have HC0:=zh hc0;clear hr0 hc0;have H : (slices_IndexFunc_string_string_at_PathOK_1.l0 k l0 (l0.length : Int) 0)=some r:=h;clear h;have H':=zh H;clear H
 go_enter Tryd.func14,Tryd.ntmps14
 go_wp2
 go_loopg [8] k (fun kq v8 w' => ∃ (x8_1 : Int),v8 = .int .i64 x8_1∧Aside0 (slices_IndexFunc_string_string_at_PathOK_1.l0 kq l0 (l0.length : Int) x8_1=some r)∧Aside0 (kq≤k)∧Drawn0 w w')
 case atStart => exact ⟨(0),(by first|rfl|(simp;done)|(simp [*];done)),H',⟨yb _⟩,by repeat (first|exact yk _|apply yl)⟩
 case round =>
  clear H'
  try clear c1
  try clear p2
  obtain ⟨x8_1,rfl,HA,HK1,⟨m1,rfl⟩⟩:=hrel
  cases gk with
  | zero => exact absurd HA.out (by simp [slices_IndexFunc_string_string_at_PathOK_1.l0])
  | succ k1 =>
   have H:=HA.out;clear HA;simp only [slices_IndexFunc_string_string_at_PathOK_1.l0] at H
   by_cases c3 : x8_1<(l0.length : Int)
   ·
    rw [if_pos c3] at H
    have c3b0 : decide (x8_1<(l0.length : Int))=true:=decide_eq_true c3;clear c3
    by_cases c4 : 0≤x8_1
    ·
     rw [if_pos c4] at H
     have c4b0 : decide (0≤x8_1)=true:=decide_eq_true c4;clear c4
     by_cases c5 : x8_1<(l0.length : Int)
     ·
      rw [if_pos c5] at H
      have c5b0 : decide (x8_1<(l0.length : Int))=true:=decide_eq_true c5;clear c5;replace H:=zR.mp H;obtain ⟨t126,A60,H⟩:=H;replace H : (if t126=true then (some x8_1) else (slices_IndexFunc_string_string_at_PathOK_1.l0 k1 l0 (l0.length : Int) (wrap64 (x8_1 + 1))))=some r:=H;have A6:=zh A60;clear A60
      by_cases c7 : t126=true
      ·
       subst c7
       have H1 : (some x8_1)=some r:=by rw [if_pos rfl] at H;exact H
       clear H;have H:=H1;clear H1;obtain rfl:=zS H;have p125 : 0≤(x8_1 : Int):=zy (by first|(with_reducible assumption)|assumption);have q125 : x8_1<(l0.length : Int):=zy (by first|(with_reducible assumption)|assumption);obtain ⟨ad125,e125,hx125_0⟩:=Kd.at_string HR0.out x8_1 p125 q125
       cases e125
       replace p125:=eq_true p125;replace q125:=eq_true q125
       go_wp2_with (first|(go_at_call 10;(with_reducible refine (impl_PathOK_1.calls k1  (rdOf ByteArray.empty l0 x8_1) true _ A6.out).mono ?_);rintro e w' ⟨rfl,⟨nd,rfl⟩⟩))
       go_ret
       exact ⟨by first|rfl|(simp;done)|(simp [*];done),by repeat (first|exact yk _|apply yl)⟩
      replace c7:=zZ.mpr c7;subst c7;have H1 : (slices_IndexFunc_string_string_at_PathOK_1.l0 k1 l0 (l0.length : Int) (wrap64 (x8_1 + 1)))=some r:=by rw [if_neg (show ¬ (false=true) by decide)] at H;exact H
      clear H;have H:=H1;clear H1;have H':=zh H;clear H;have p125 : 0≤(x8_1 : Int):=zy (by first|(with_reducible assumption)|assumption);have q125 : x8_1<(l0.length : Int):=zy (by first|(with_reducible assumption)|assumption);obtain ⟨ad125,e125,hx125_0⟩:=Kd.at_string HR0.out x8_1 p125 q125
      cases e125
      replace p125:=eq_true p125;replace q125:=eq_true q125
      go_wp2_with (first|(go_at_call 10;(with_reducible refine (impl_PathOK_1.calls k1  (rdOf ByteArray.empty l0 x8_1) false _ A6.out).mono ?_);rintro e w' ⟨rfl,⟨nd,rfl⟩⟩))
      go_roundg k1
      case measure => have:=HK1.out;omega
      case rel => exact ⟨(wrap64 (x8_1 + 1)),(by first|rfl|(simp;done)|(simp [*];done)),H',⟨by have:=HK1.out;omega⟩,by repeat (first|exact yk _|apply yl)⟩
     rw [if_neg c5] at H;exact absurd H (by simp)
    rw [if_neg c4] at H;exact absurd H (by simp)
   rw [if_neg c3] at H;have c3b0 : decide (x8_1<(l0.length : Int))=false:=decide_eq_false c3;clear c3;obtain rfl:=zS H
   go_wp2
   go_ret
   exact ⟨by first|rfl|(simp;done)|(simp [*];done),by repeat (first|exact yk _|apply yl)⟩

end Go.Proofs.YtmhomllbfblmjaaDoor.Q
end
section
namespace Go.Proofs.YtmhomllbfblmjaaDoor.Q
open Go.RowKit Go.Proofs.YtmhomllbfblmjaaDoorW.PrintWords Go.Proofs.YtmhomllbfblmjaaDoorW.PrintLast Go.Proofs.YtmhomllbfblmjaaDoorW.PrintMore
attribute [local go_sem] max2_int min2_int max_two min_two max_three min_three max_four min_four max2_str min2_str str_geq str_gtr str_leq   -- for this text's walks alone
set_option linter.unusedVariables false
set_option linter.unusedSimpArgs false

def slices_ContainsFunc_string_string_at_PathOK_1.f (k : Nat) (l0 : List ByteArray)  : Option (Bool):=(slices_IndexFunc_string_string_at_PathOK_1.f k l0).bind fun t127 => (some (decide (t127 ≥ 0)))
theorem slices_ContainsFunc_string_string_at_PathOK_1.mono : ∀ a0 k,LeO (slices_ContainsFunc_string_string_at_PathOK_1.f k a0) (slices_ContainsFunc_string_string_at_PathOK_1.f (k + 1) a0):=by
 intro a0 k;unfold slices_ContainsFunc_string_string_at_PathOK_1.f
 repeat' first|(with_reducible exact slices_IndexFunc_string_string_at_PathOK_1.mono _ _)|(with_reducible exact zO _)|(with_reducible exact zL _)|(with_reducible refine zN ?_ ?_)|(with_reducible refine zM ?_ (fun _ => ?_))|refine zN ?_ ?_|refine zM ?_ (fun _ => ?_)
set_option maxHeartbeats 8000000 in
set_option maxRecDepth 100000 in
theorem slices_ContainsFunc_string_string_at_PathOK_1.calls (k : Nat) (A0 : Option Addr) (c0 : Nat) (l0 : List ByteArray)  (r : Bool) (w : World) (hr0 : Kd.C Kd.string w A0 l0.length l0) (hc0 : l0.length≤c0) (h : slices_ContainsFunc_string_string_at_PathOK_1.f k l0=some r) :
  Calls Tryd.prog 9 #[.slice A0 l0.length c0,.func (.func 10) #[] #[]] w fun e w' => e = .returned (.bool r)∧Drawn0 w w':=by
 have HR0:=zh hr0;have HC0:=zh hc0;clear hr0 hc0;have H : ((slices_IndexFunc_string_string_at_PathOK_1.f k l0).bind fun t127 => (some (decide (t127 ≥ 0))))=some r:=h;clear h;replace H:=zR.mp H;obtain ⟨t127,A30,H⟩:=H;replace H : (some (decide (t127 ≥ 0)))=some r:=H;have A3:=zh A30;clear A30;obtain rfl:=zS H
 go_enter Tryd.func9,Tryd.ntmps9
 go_wp2_with (first|((with_reducible refine zI (f:=14) rfl ?_);refine ye (some 7) rfl rfl Tryd.func14 (by kernel_rfl) rfl #[.slice A0 l0.length c0,.func (.func 10) #[] #[]] rfl (by (try simp only [zt,zu,zv]);first|done|rfl|(simp only [zw,zx];rfl)|(simp only [ym,yn,zT,zU];rfl)) ?_;(with_reducible refine (slices_IndexFunc_string_string_at_PathOK_1.calls k  _ _ l0  t127 _ ?side1 ?side2 A3.out).mono ?_);(case side1 => repeat (first|exact HR0.out|(with_reducible refine Kd.C_alloc ?_ _)|(with_reducible refine Kd.C_drewN ?_ _)|(with_reducible refine Kd.C_drew ?_)));(case side2 => exact HC0.out);rintro e w' ⟨rfl,⟨nd,rfl⟩⟩;refine ⟨_,rfl,?_⟩))
 go_ret
 exact ⟨by first|rfl|(simp;done)|(simp [*];done),by repeat (first|exact yk _|apply yl)⟩

end Go.Proofs.YtmhomllbfblmjaaDoor.Q
end
section
namespace Go.Proofs.YtmhomllbfblmjaaDoor.Q
open Go.RowKit Go.Proofs.YtmhomllbfblmjaaDoorW.PrintWords Go.Proofs.YtmhomllbfblmjaaDoorW.PrintLast Go.Proofs.YtmhomllbfblmjaaDoorW.PrintMore
attribute [local go_sem] max2_int min2_int max_two min_two max_three min_three max_four min_four max2_str min2_str str_geq str_gtr str_leq   -- for this text's walks alone
set_option linter.unusedVariables false
set_option linter.unusedSimpArgs false

def impl_PathOK.f (k : Nat) (a0 : ByteArray) : Option (Bool):=(strings_Split.f a0 (⟨#[46]⟩ : ByteArray)).bind fun t128 => (if (a0.size : Int)≤50 then (if (t128.length : Int)≤4 then ((slices_ContainsFunc_string_string_at_PathOK_1.f k t128).bind fun t131 => (some (!t131))) else (some false)) else (some false))
theorem impl_PathOK.mono : ∀ a0 k,LeO (impl_PathOK.f k a0) (impl_PathOK.f (k + 1) a0):=by
 intro a0 k;unfold impl_PathOK.f
 repeat' first|(with_reducible exact slices_ContainsFunc_string_string_at_PathOK_1.mono _ _)|(with_reducible exact zO _)|(with_reducible exact zL _)|(with_reducible refine zN ?_ ?_)|(with_reducible refine zM ?_ (fun _ => ?_))|refine zN ?_ ?_|refine zM ?_ (fun _ => ?_)
set_option maxHeartbeats 8000000 in
set_option maxRecDepth 100000 in
theorem impl_PathOK.calls (k : Nat) (a0 : ByteArray) (r : Bool) (w : World) (h : impl_PathOK.f k a0=some r) :
  Calls Tryd.prog 5 #[.string a0] w fun e w' => e = .returned (.bool r)∧Below w.heap.size w w':=by
 have HB:=zh (Below.refl w.heap.size w);have H : ((strings_Split.f a0 (⟨#[46]⟩ : ByteArray)).bind fun t128 => (if (a0.size : Int)≤50 then (if (t128.length : Int)≤4 then ((slices_ContainsFunc_string_string_at_PathOK_1.f k t128).bind fun t131 => (some (!t131))) else (some false)) else (some false)))=some r:=h;clear h;replace H:=zR.mp H;obtain ⟨t128,A20,H⟩:=H;replace H : (if (a0.size : Int)≤50 then (if (t128.length : Int)≤4 then ((slices_ContainsFunc_string_string_at_PathOK_1.f k t128).bind fun t131 => (some (!t131))) else (some false)) else (some false))=some r:=H;have A2:=zh A20;clear A20
 by_cases c3 : (a0.size : Int)≤50
 ·
  rw [if_pos c3] at H
  have c3b0 : decide ((a0.size : Int)≤50)=true:=decide_eq_true c3;have c3b1 : decide (a0.size≤50)=true:=decide_eq_true (by omega);clear c3
  by_cases c4 : (t128.length : Int)≤4
  ·
   rw [if_pos c4] at H
   have c4b0 : decide ((t128.length : Int)≤4)=true:=decide_eq_true c4;have c4b1 : decide (t128.length≤4)=true:=decide_eq_true (by omega);clear c4;replace H:=zR.mp H;obtain ⟨t131,A50,H⟩:=H;replace H : (some (!t131))=some r:=H;have A5:=zh A50;clear A50;obtain rfl:=zS H
   go_enter Tryd.func5,Tryd.ntmps5
   go_wp2_with (first|((with_reducible refine zI (f:=8) rfl ?_);refine ye (some 5) rfl rfl Tryd.func8 (by kernel_rfl) rfl #[.string a0,.string (⟨#[46]⟩ : ByteArray)] rfl (by (try simp only [zt,zu,zv]);first|done|rfl|(simp only [zw,zx];rfl)|(simp only [ym,yn,zT,zU];rfl)) ?_;(with_reducible refine (strings_Split.calls  a0 (⟨#[46]⟩ : ByteArray) t128 _ A2.out).mono ?_);rintro e w6 ⟨v129,rfl,ho0,hb⟩;refine ⟨_,rfl,?_⟩;have HO130:=zh (ys ho0 (zB (by repeat (with_reducible first|exact HB.out|apply za|apply zb|apply zc))));replace HB:=zh (zC (by repeat (with_reducible first|exact HB.out|apply za|apply zb|apply zc)) hb);(try clear hb);(try clear hb2);(try clear hk);(try clear hi);(try clear ho0);obtain ⟨Ao7,co7,eo7⟩:=yf HO130.out;subst eo7)|(go_at_call 9;(with_reducible refine (slices_ContainsFunc_string_string_at_PathOK_1.calls k  _ _ t128  t131 _ ?side1 ?side2 A5.out).mono ?_);(case side1 => repeat (first|exact (yc HO130.out).2.2|(with_reducible refine Kd.C_alloc ?_ _)|(with_reducible refine Kd.C_drewN ?_ _)|(with_reducible refine Kd.C_drew ?_)));(case side2 => exact (yc HO130.out).2.1);rintro e w' ⟨rfl,⟨nd,rfl⟩⟩))
   go_ret
   exact ⟨by first|rfl|(simp [yo,yp] <;> rfl)|(simp [*,yo,yp] <;> rfl),by repeat (with_reducible first|exact HB.out|apply za|apply zb|apply zc)⟩
  rw [if_neg c4] at H;have c4b0 : decide ((t128.length : Int)≤4)=false:=decide_eq_false c4;have c4b1 : decide (t128.length≤4)=false:=decide_eq_false (by omega);clear c4;obtain rfl:=zS H
  go_enter Tryd.func5,Tryd.ntmps5
  go_wp2_with (first|((with_reducible refine zI (f:=8) rfl ?_);refine ye (some 5) rfl rfl Tryd.func8 (by kernel_rfl) rfl #[.string a0,.string (⟨#[46]⟩ : ByteArray)] rfl (by (try simp only [zt,zu,zv]);first|done|rfl|(simp only [zw,zx];rfl)|(simp only [ym,yn,zT,zU];rfl)) ?_;(with_reducible refine (strings_Split.calls  a0 (⟨#[46]⟩ : ByteArray) t128 _ A2.out).mono ?_);rintro e w8 ⟨v129,rfl,ho0,hb⟩;refine ⟨_,rfl,?_⟩;have HO130:=zh (ys ho0 (zB (by repeat (with_reducible first|exact HB.out|apply za|apply zb|apply zc))));replace HB:=zh (zC (by repeat (with_reducible first|exact HB.out|apply za|apply zb|apply zc)) hb);(try clear hb);(try clear hb2);(try clear hk);(try clear hi);(try clear ho0);obtain ⟨Ao9,co9,eo9⟩:=yf HO130.out;subst eo9))
  go_ret
  exact ⟨by first|rfl|(simp [yo,yp] <;> rfl)|(simp [*,yo,yp] <;> rfl),by repeat (with_reducible first|exact HB.out|apply za|apply zb|apply zc)⟩
 rw [if_neg c3] at H;have c3b0 : decide ((a0.size : Int)≤50)=false:=decide_eq_false c3;have c3b1 : decide (a0.size≤50)=false:=decide_eq_false (by omega);clear c3;obtain rfl:=zS H
 go_enter Tryd.func5,Tryd.ntmps5
 go_wp2_with (first|((with_reducible refine zI (f:=8) rfl ?_);refine ye (some 5) rfl rfl Tryd.func8 (by kernel_rfl) rfl #[.string a0,.string (⟨#[46]⟩ : ByteArray)] rfl (by (try simp only [zt,zu,zv]);first|done|rfl|(simp only [zw,zx];rfl)|(simp only [ym,yn,zT,zU];rfl)) ?_;(with_reducible refine (strings_Split.calls  a0 (⟨#[46]⟩ : ByteArray) t128 _ A2.out).mono ?_);rintro e w10 ⟨v129,rfl,ho0,hb⟩;refine ⟨_,rfl,?_⟩;have HO130:=zh (ys ho0 (zB (by repeat (with_reducible first|exact HB.out|apply za|apply zb|apply zc))));replace HB:=zh (zC (by repeat (with_reducible first|exact HB.out|apply za|apply zb|apply zc)) hb);(try clear hb);(try clear hb2);(try clear hk);(try clear hi);(try clear ho0)))
 go_ret
 exact ⟨by first|rfl|(simp [yo,yp] <;> rfl)|(simp [*,yo,yp] <;> rfl),by repeat (with_reducible first|exact HB.out|apply za|apply zb|apply zc)⟩

end Go.Proofs.YtmhomllbfblmjaaDoor.Q
end
section
namespace Go.Proofs.YtmhomllbfblmjaaDoor.Q
open Go.RowKit Go.Proofs.YtmhomllbfblmjaaDoorW.PrintWords Go.Proofs.YtmhomllbfblmjaaDoorW.PrintLast Go.Proofs.YtmhomllbfblmjaaDoorW.PrintMore
attribute [local go_sem] max2_int min2_int max_two min_two max_three min_three max_four min_four max2_str min2_str str_geq str_gtr str_leq   -- for this text's walks alone
set_option linter.unusedVariables false
set_option linter.unusedSimpArgs false

def laws_FnExactPathOK.f (k : Nat) (a0 : ByteArray) : Option (Bool):=if (a0.size : Int) > 1048576 then (some true) else ((spec_PathOK.f k a0).bind fun t132 => ((impl_PathOK.f k a0).bind fun t133 => (if (t133 != t132)=true then (some false) else (some true))))
theorem laws_FnExactPathOK.mono : ∀ a0 k,LeO (laws_FnExactPathOK.f k a0) (laws_FnExactPathOK.f (k + 1) a0):=by
 intro a0 k;unfold laws_FnExactPathOK.f
 repeat' first|(with_reducible exact spec_PathOK.mono _ _)|(with_reducible exact impl_PathOK.mono _ _)|(with_reducible exact zO _)|(with_reducible exact zL _)|(with_reducible refine zN ?_ ?_)|(with_reducible refine zM ?_ (fun _ => ?_))|refine zN ?_ ?_|refine zM ?_ (fun _ => ?_)
set_option maxHeartbeats 8000000 in
set_option maxRecDepth 100000 in
theorem laws_FnExactPathOK.calls (k : Nat) (a0 : ByteArray) (r : Bool) (w : World) (h : laws_FnExactPathOK.f k a0=some r) :
  Calls Tryd.prog 3 #[.string a0] w fun e w' => e = .returned (.bool r)∧Below w.heap.size w w':=by
 have HB:=zh (Below.refl w.heap.size w);have H : (if (a0.size : Int) > 1048576 then (some true) else ((spec_PathOK.f k a0).bind fun t132 => ((impl_PathOK.f k a0).bind fun t133 => (if (t133 != t132)=true then (some false) else (some true)))))=some r:=h;clear h
 by_cases c2 : (a0.size : Int) > 1048576
 ·
  rw [if_pos c2] at H
  have c2b0 : decide (1048576<(a0.size : Int))=true:=decide_eq_true c2;have c2b1 : decide (1048576<a0.size)=true:=decide_eq_true (by omega);clear c2;obtain rfl:=zS H
  go_enter Tryd.func3,Tryd.ntmps3
  go_wp2
  go_ret
  exact ⟨by first|rfl|(simp [yo,yp] <;> rfl)|(simp [*,yo,yp] <;> rfl),by repeat (with_reducible first|exact HB.out|apply za|apply zb|apply zc)⟩
 rw [if_neg c2] at H;have c2b0 : decide (1048576<(a0.size : Int))=false:=decide_eq_false c2;have c2b1 : decide (1048576<a0.size)=false:=decide_eq_false (by omega);clear c2;replace H:=zR.mp H;obtain ⟨t132,A30,H⟩:=H;replace H : ((impl_PathOK.f k a0).bind fun t133 => (if (t133 != t132)=true then (some false) else (some true)))=some r:=H;have A3:=zh A30;clear A30;replace H:=zR.mp H;obtain ⟨t133,A40,H⟩:=H;replace H : (if (t133 != t132)=true then (some false) else (some true))=some r:=H;have A4:=zh A40;clear A40
 by_cases c5 : (t133 != t132)=true
 ·
  rw [if_pos c5] at H
  have c5b0 : (t133 != t132)=true:=c5;(try (have c5b1 : decide (t133=t132)=false:=by simpa using c5));(try (have c5b2 : (t133 == t132)=false:=by simpa using c5));(try (have c5b3 : ¬ (t133=t132):=by simpa using c5));clear c5;obtain rfl:=zS H
  go_enter Tryd.func3,Tryd.ntmps3
  go_wp2_with (first|((with_reducible refine zI (f:=4) rfl ?_);refine ye (some 9) rfl rfl Tryd.func4 (by kernel_rfl) rfl #[.string a0] rfl (by (try simp only [zt,zu,zv]);first|done|rfl|(simp only [zw,zx];rfl)|(simp only [ym,yn,zT,zU];rfl)) ?_;(with_reducible refine (spec_PathOK.calls k  a0 t132 _ A3.out).mono ?_);rintro e w6 ⟨rfl,hb⟩;refine ⟨_,rfl,?_⟩;replace HB:=zh (zC (by repeat (with_reducible first|exact HB.out|apply za|apply zb|apply zc)) hb);(try clear hb);(try clear hb2);(try clear hk);(try clear hi))|((with_reducible refine zI (f:=5) rfl ?_);refine ye (some 11) rfl rfl Tryd.func5 (by kernel_rfl) rfl #[.string a0] rfl (by (try simp only [zt,zu,zv]);first|done|rfl|(simp only [zw,zx];rfl)|(simp only [ym,yn,zT,zU];rfl)) ?_;(with_reducible refine (impl_PathOK.calls k  a0 t133 _ A4.out).mono ?_);rintro e w7 ⟨rfl,hb⟩;refine ⟨_,rfl,?_⟩;replace HB:=zh (zC (by repeat (with_reducible first|exact HB.out|apply za|apply zb|apply zc)) hb);(try clear hb);(try clear hb2);(try clear hk);(try clear hi)))
  go_ret
  exact ⟨by first|rfl|(simp [yo,yp] <;> rfl)|(simp [*,yo,yp] <;> rfl),by repeat (with_reducible first|exact HB.out|apply za|apply zb|apply zc)⟩
 rw [if_neg c5] at H;have c5b0 : (t133 != t132)=false:=by simpa using c5
 (try (have c5b1 : decide (t133=t132)=true:=by simpa using c5));(try (have c5b2 : (t133 == t132)=true:=by simpa using c5));clear c5;obtain rfl:=zS H
 go_enter Tryd.func3,Tryd.ntmps3
 go_wp2_with (first|((with_reducible refine zI (f:=4) rfl ?_);refine ye (some 9) rfl rfl Tryd.func4 (by kernel_rfl) rfl #[.string a0] rfl (by (try simp only [zt,zu,zv]);first|done|rfl|(simp only [zw,zx];rfl)|(simp only [ym,yn,zT,zU];rfl)) ?_;(with_reducible refine (spec_PathOK.calls k  a0 t132 _ A3.out).mono ?_);rintro e w8 ⟨rfl,hb⟩;refine ⟨_,rfl,?_⟩;replace HB:=zh (zC (by repeat (with_reducible first|exact HB.out|apply za|apply zb|apply zc)) hb);(try clear hb);(try clear hb2);(try clear hk);(try clear hi))|((with_reducible refine zI (f:=5) rfl ?_);refine ye (some 11) rfl rfl Tryd.func5 (by kernel_rfl) rfl #[.string a0] rfl (by (try simp only [zt,zu,zv]);first|done|rfl|(simp only [zw,zx];rfl)|(simp only [ym,yn,zT,zU];rfl)) ?_;(with_reducible refine (impl_PathOK.calls k  a0 t133 _ A4.out).mono ?_);rintro e w9 ⟨rfl,hb⟩;refine ⟨_,rfl,?_⟩;replace HB:=zh (zC (by repeat (with_reducible first|exact HB.out|apply za|apply zb|apply zc)) hb);(try clear hb);(try clear hb2);(try clear hk);(try clear hi)))
 go_ret
 exact ⟨by first|rfl|(simp [yo,yp] <;> rfl)|(simp [*,yo,yp] <;> rfl),by repeat (with_reducible first|exact HB.out|apply za|apply zb|apply zc)⟩

end Go.Proofs.YtmhomllbfblmjaaDoor.Q
end
section
namespace Go.Proofs.YtmhomllbfblmjaaDoorW.PrintOpen
open Go.RowKit Go.ChangeShapes Go.WideShapes Go.ChangeAt Go.Proofs.YtmhomllbfblmjaaDoorW.PrintWords
def Opens {α : Type} (P : Program) (d : Kd α) (t : TypeId) (good : α→Prop) : Prop :=
 ∀ (H : Type) (enc : TypeId×Value→H) (w : World) (base : Nat) (spare : Nat→Bool) (held : Bool) (fuel : Nat) (cs : List Value) (x : DataW H×List MemPlace),
  DataW.trod enc P w base spare held fuel t cs=some x → ∃ a,d.K w a cs∧good a
variable {P : Program}
def OpensF {α : Type} (P : Program) (d : Kd α) (fs : List Field) (off : Nat) (good : α→Prop) : Prop :=
 ∀ (H : Type) (enc : TypeId×Value→H) (w : World) (base : Nat) (spare : Nat→Bool) (held : Bool) (fuel : Nat) (cs : List Value),off + d.sz≤cs.length →
  (∀ f ∈ fs,∃ x,DataW.trod enc P w base spare held fuel f.type ((cs.drop f.offset).take (P.cellsOf f.type))=some x) → ∃ a,d.K w a ((cs.drop off).take d.sz)∧good a
end Go.Proofs.YtmhomllbfblmjaaDoorW.PrintOpen
end
section
namespace Go.Proofs.YtmhomllbfblmjaaDoor.Q
open Go.RowKit Go.Proofs.YtmhomllbfblmjaaDoorW.PrintWords Go.Proofs.YtmhomllbfblmjaaDoorW.PrintLast Go.Proofs.YtmhomllbfblmjaaDoorW.PrintMore Go.Proofs.YtmhomllbfblmjaaDoorW.PrintOpen

end Go.Proofs.YtmhomllbfblmjaaDoor.Q
end
section
namespace Go.Proofs.YtmhomllbfblmjaaDoor.Q
def laws_FnExactPathOK.Pure : Prop:=∀ (x0 : ByteArray),(x0.size≤9223372036854775807) → ∃ k,laws_FnExactPathOK.f k x0=some true
end Go.Proofs.YtmhomllbfblmjaaDoor.Q
end
section
namespace Go.Proofs.YtmhomllbfblmjaaDoorW.Pl
open Go Go.RowKit Go.Proofs.YtmhomllbfblmjaaDoorW.PrintWords Go.Proofs.YtmhomllbfblmjaaDoorW.PrintMore
theorem w64 {i : Int} (h0 : -9223372036854775808≤i) (h1 : i≤9223372036854775807) : wrap64 i=i:=by unfold wrap64;omega
theorem fuel {k d : Nat} (h : d<k) : ∃ m,k=m + 1∧d≤m:=⟨k - 1,by omega,by omega⟩
theorem rdOf_at {α : Type} (d : α) (xs : List α) (i : Nat) (h : i<xs.length) : rdOf d xs (i : Int)=xs[i]:=by
 unfold rdOf;simp [List.getD,h]
theorem rd_at (xs : List Int) (i : Nat) (h : i<xs.length) : rd xs (i : Int)=xs[i]:=by
 unfold rd;simp [List.getD,h]
theorem drop_at {α : Type} (xs : List α) (i : Nat) (h : i<xs.length) : xs.drop i=xs[i] :: xs.drop (i + 1):=List.drop_eq_getElem_cons h
def all2 {α β : Type} (e : α→β→Bool) : List α→List β→Bool
 | [],_ => true
 | _ :: _,[] => true
 | x :: xs,y :: ys => e x y && all2 e xs ys
def first {α : Type} (p : α→Bool) : List α→Nat→Int
 | [],_ => -1
 | x :: xs,i => if p x=true then i else first p xs (i + 1)
theorem first_any {α : Type} (p : α→Bool) : ∀ (xs : List α) (i : Nat),decide (first p xs i ≥ 0)=xs.any p
 | [],i => rfl
 | x :: xs,i => by
  by_cases h : p x=true
  ·
   simp [first,h]
  simp only [first,if_neg h,List.any_cons,first_any p xs (i + 1)];simp [h]
def total {α : Type} (s : α→Nat) : List α→Nat
 | [] => 0
 | x :: xs => s x + total s xs
def less {α : Type} (s : α→Nat) : List α→Int→Int
 | [],l => l
 | x :: xs,l => if l - s x<0 then -1 else less s xs (l - s x)
def Eve {α : Type} (g : Nat→Option α) (v : α) : Prop:=∃ K,∀ k,K≤k→g k=some v
theorem Eve.one {α : Type} {v : α} : Eve (fun _ => some v) v:=⟨0,fun _ _ => rfl⟩
theorem Eve.all {α : Type} {g : Nat→Option α} {v : α} (h : ∀ k,g k=some v) : Eve g v:=⟨0,fun k _ => h k⟩
theorem Eve.of {α : Type} {g : Nat→Option α} {v : α} {n : Nat} (h : ∀ k,n<k→g k=some v) : Eve g v:=⟨n + 1,fun k hk => h k (by omega)⟩
theorem Eve.succ {α : Type} {g : Nat→Option α} {v : α} (h : Eve (fun k => g (k + 1)) v) : Eve g v:=by
 obtain ⟨K,h⟩:=h;refine ⟨K + 1,fun k hk => ?_⟩;obtain ⟨k,rfl⟩ : ∃ m,k=m + 1:=⟨k - 1,by omega⟩;exact h k (by omega)
theorem Eve.bind {α β : Type} {g : Nat→Option α} {f : Nat→α→Option β} {v : α} {u : β} (h : Eve g v) (h2 : Eve (fun k => f k v) u) : Eve (fun k => (g k).bind (f k)) u:=by
 obtain ⟨K,h⟩:=h;obtain ⟨K2,h2⟩:=h2;refine ⟨max K K2,fun k hk => ?_⟩;show (g k).bind (f k)=some u;rw [h k (by omega),Option.bind_some];exact h2 k (by omega)
theorem Eve.ite {α : Type} {c : Prop} [Decidable c] {a b : Nat→Option α} {v : α} (h1 : c→Eve a v) (h2 : ¬ c→Eve b v) : Eve (fun k => if c then a k else b k) v:=by
 by_cases h : c
 ·
  simp only [if_pos h];exact h1 h
 simp only [if_neg h];exact h2 h
theorem Eve.get {α : Type} {g : Nat→Option α} {v : α} (h : Eve g v) : ∃ k,g k=some v:=by
 obtain ⟨K,h⟩:=h;exact ⟨K,h K (by omega)⟩
theorem Eve.eq {α : Type} {g : Nat→Option α} {v u : α} (h : Eve g v) (e : v=u) : Eve g u:=e ▸ h
theorem Eve.congr {α : Type} {g f : Nat→Option α} {v : α} (h : Eve g v) (e : ∀ k,f k=g k) : Eve f v:=by
 obtain ⟨K,h⟩:=h;exact ⟨K,fun k hk => by rw [e,h k hk]⟩
theorem ev_loop {σ α β : Type} (xs : List α) (g : Nat→σ→Int→Option β) (R : Nat→σ→List α→β) (I : Nat→σ→Prop)
  (hend : ∀ s,I xs.length s→Eve (fun k => g (k + 1) s (xs.length : Int)) (R xs.length s []))
  (hstep : ∀ (i : Nat) (h : i<xs.length) (s : σ),I i s→(∀ s',I (i + 1) s' → Eve (fun k => g k s' ((i + 1 : Nat) : Int)) (R (i + 1) s' (xs.drop (i + 1)))) →
   Eve (fun k => g (k + 1) s (i : Int)) (R i s (xs[i] :: xs.drop (i + 1)))) :
  ∀ (d i : Nat) (s : σ),i + d=xs.length→I i s→Eve (fun k => g k s (i : Int)) (R i s (xs.drop i)):=by
 intro d
 induction d with
 | zero =>
  intro i s hi hI;obtain rfl : i=xs.length:=by omega
  rw [List.drop_length];exact Eve.succ (hend s hI)
 | succ d ih =>
  intro i s hi hI;have hlt : i<xs.length:=by omega
  rw [drop_at xs i hlt];exact Eve.succ (hstep i hlt s hI (fun s' h' => ih (i + 1) s' (by omega) h'))
theorem ev_loop0 {σ α β : Type} (xs : List α) (g : Nat→σ→Int→Option β) (R : Nat→σ→List α→β) (I : Nat→σ→Prop)
  (hend : ∀ s,I xs.length s→Eve (fun k => g (k + 1) s (xs.length : Int)) (R xs.length s []))
  (hstep : ∀ (i : Nat) (h : i<xs.length) (s : σ),I i s→(∀ s',I (i + 1) s' → Eve (fun k => g k s' ((i + 1 : Nat) : Int)) (R (i + 1) s' (xs.drop (i + 1)))) →
   Eve (fun k => g (k + 1) s (i : Int)) (R i s (xs[i] :: xs.drop (i + 1)))) (s : σ) (h0 : I 0 s) : Eve (fun k => g k s 0) (R 0 s xs):=by
 have:=ev_loop xs g R I hend hstep xs.length 0 s (by omega) h0
 simpa using this
theorem ev_all {α : Type} (xs : List α) (g : Nat→Int→Option Bool) (q : α→Bool)
  (hend : Eve (fun k => g (k + 1) (xs.length : Int)) true)
  (hstep : ∀ (i : Nat) (h : i<xs.length) (v : Bool),Eve (fun k => g k ((i + 1 : Nat) : Int)) v→Eve (fun k => g (k + 1) (i : Int)) (q xs[i] && v)) : Eve (fun k => g k 0) (xs.all q) :=
 ev_loop0 xs (fun k (_ : Unit) i => g k i) (fun _ _ r => r.all q) (fun _ _ => True) (fun _ _ => hend) (fun i hi s _ ih => by
  rw [List.all_cons];exact hstep i hi _ (ih () trivial)) () trivial
end Go.Proofs.YtmhomllbfblmjaaDoorW.Pl
end
section
namespace Go.Proofs.YtmhomllbfblmjaaDoor.Pure
open Go Go.RowKit Go.Proofs.YtmhomllbfblmjaaDoor.Q Go.Proofs.YtmhomllbfblmjaaDoorW.PrintWords Go.Proofs.YtmhomllbfblmjaaDoorW.PrintLast Go.Proofs.YtmhomllbfblmjaaDoorW.PrintMore Go.Proofs.YtmhomllbfblmjaaDoorW.Pl
def cutA (c : UInt8) : List UInt8→List UInt8→List (List UInt8)
 | acc,[] => [acc]
 | acc,b :: l => if b=c then acc :: cutA c [] l else cutA c (acc ++ [b]) l
def mkB (l : List UInt8) : ByteArray:=⟨l.toArray⟩
theorem mkB_of (s : ByteArray) : mkB s.data.toList=s:=by obtain ⟨⟨l⟩⟩:=s;rfl
theorem cutA_miss (c : UInt8) : ∀ (l acc : List UInt8),Lib.indexByte l c = -1→cutA c acc l=[acc ++ l]
 | [],acc,_ => by simp [cutA]
 | b :: l,acc,h => by
  unfold Lib.indexByte at h
  by_cases hb : b=c
  ·
   subst hb;simp at h
  have h1 : Lib.indexByte l c = -1:=by
   by_cases h2 : Lib.indexByte l c = -1
   ·
    exact h2
   have:=Lib.indexByte_ge l c;simp [hb,h2] at h
   omega
  rw [cutA,if_neg hb,cutA_miss c l _ h1];simp
theorem cutA_hit (c : UInt8) : ∀ (l acc : List UInt8) (i : Nat),Lib.indexByte l c=i→cutA c acc l=(acc ++ l.take i) :: cutA c [] (l.drop (i + 1))
 | [],acc,i,h => by simp [Lib.indexByte] at h
 | b :: l,acc,i,h => by
  unfold Lib.indexByte at h
  by_cases hb : b=c
  ·
   subst hb
   simp at h;obtain rfl : i=0:=by omega
   rw [cutA,if_pos rfl];simp
  by_cases h2 : Lib.indexByte l c = -1
  ·
   simp [hb,h2] at h
  have hge:=Lib.indexByte_ge l c;simp [hb,h2] at h;obtain ⟨j,rfl⟩ : ∃ j,i=j + 1:=⟨i - 1,by omega⟩;rw [cutA,if_neg hb,cutA_hit c l _ j (by omega)];simp
theorem splitK_cutA (c : UInt8) : ∀ (k : Nat) (l : List UInt8),Lib.count l [c]=k→Lib.splitK [c] 0 k l=cutA c [] l
 | 0,l,h => by
  have hm : Lib.indexByte l c = -1:=by
   by_cases h2 : Lib.indexByte l c = -1
   ·
    exact h2
   have hge:=Lib.indexByte_ge l c;have:=Lib.count_hit (sub:=[c]) (s:=l) (by simp) (i:=(Lib.indexByte l c).toNat) (by rw [Lib.index_one];omega)
   omega
  rw [cutA_miss c l [] hm];rfl
 | k + 1,l,h => by
  have hh : ¬ Lib.indexByte l c = -1:=fun e => by
   have:=Lib.count_miss (s:=l) (sub:=[c]) (by rw [Lib.index_one];exact e)
   omega
  have hge:=Lib.indexByte_ge l c;obtain ⟨i,hi⟩ : ∃ i : Nat,Lib.indexByte l c=i:=⟨(Lib.indexByte l c).toNat,by omega⟩;have hc:=Lib.count_hit (sub:=[c]) (s:=l) (by simp) (i:=i) (by rw [Lib.index_one];exact hi);have hlen : ([c] : List UInt8).length=1:=rfl;rw [cutA_hit c l [] i hi,Lib.splitK,if_neg (by rw [Lib.index_one];simpa using hh),Lib.index_one,hi,Int.toNat_natCast,Nat.add_zero,hlen,List.nil_append];rw [splitK_cutA c k (l.drop (i + 1)) (by rw [hlen] at hc;omega)]
theorem pieces_cutA (s : ByteArray) (c : UInt8) : pieces s ⟨#[c]⟩=(cutA c [] s.data.toList).map mkB:=by
 have h:=Lib.splitB_data ⟨#[c]⟩ 0 (Lib.countB s ⟨#[c]⟩) s;have h2 : Lib.splitK [c] 0 (Lib.countB s ⟨#[c]⟩) s.data.toList=cutA c [] s.data.toList:=splitK_cutA c _ _ rfl;have h3 : (pieces s ⟨#[c]⟩).map (·.data.toList)=cutA c [] s.data.toList:=h.trans h2;rw [← h3,List.map_map];have : (mkB ∘ fun x : ByteArray => x.data.toList)=id:=by funext x;exact mkB_of x
 rw [this,List.map_id]
theorem cutA_le (c : UInt8) : ∀ (l acc x : List UInt8),x ∈ cutA c acc l→x.length≤acc.length + l.length
 | [],acc,x,h => by simp [cutA] at h;subst h;simp
 | b :: l,acc,x,h => by
  unfold cutA at h
  split at h
  ·
   rcases List.mem_cons.1 h with rfl|h
   ·
    simp
   have:=cutA_le c l [] x h;simp at this ⊢;omega
  have:=cutA_le c l _ x h;simp at this ⊢;omega
theorem bt_data (s : ByteArray) (i : Nat) (h : i<s.data.toList.length) : bt s (i : Int)=((s.data.toList[i]).toNat : Int):=by
 have hs : i<s.size:=by simpa using h
 rw [← bt_at s (i : Int) (by simpa using hs)]
 rfl
theorem cut_spec (s : ByteArray) (hs : s.size≤1048576) : Eve (fun k => spec_l00Cut.f k s 46) ((cutA 46 [] s.data.toList).map mkB):=by
 simp only [spec_l00Cut.f];have hlen : s.data.toList.length=s.size:=by rw [Array.length_toList];rfl
 have hz : ((s.data.toList.length : Nat) : Int)=(s.size : Int):=by rw [hlen]
 have ext : ∀ a b : Nat,s.extract a b=mkB ((s.data.toList.take b).drop a):=fun a b => by
  have : (s.extract a b).data.toList=(s.data.toList.take b).drop a:=by
   rw [Lib.extract_data];simp [List.drop_take]
  rw [← mkB_of (s.extract a b),this]
 have key:=ev_loop0 s.data.toList (fun k (σ : List ByteArray×Int) i => spec_l00Cut.l0 k s 46 σ.1 σ.2 i)
  (fun i σ rest => σ.1 ++ (cutA 46 ((s.data.toList.take i).drop σ.2.toNat) rest).map mkB)
  (fun i σ => 0≤σ.2∧σ.2≤i∧σ.1.length≤i) ?_ ?_ ([],0) ⟨by simp,by simp,by simp⟩
 ·
  simpa using key
 ·
  rintro ⟨out,from_⟩ ⟨h0,h1,h2⟩
  simp only at h0 h1 h2;simp only [spec_l00Cut.l0];refine Eve.ite (fun h => absurd h (by omega)) (fun _ => ?_);refine Eve.ite (fun _ => ?_) (fun h => absurd h0 h);refine Eve.ite (fun _ => ?_) (fun h => absurd (by omega) h);refine Eve.ite (fun _ => Eve.one.eq ?_) (fun h => absurd (by omega) h);simp only [cutA,List.map_cons,List.map_nil];rw [ext,hlen]
 rintro i hi ⟨out,from_⟩ ⟨h0,h1,h2⟩ ih;simp only at h0 h1 h2;simp only [spec_l00Cut.l0,bt_data s i hi];have hw : wrap64 ((i : Int) + 1)=((i + 1 : Nat) : Int):=by rw [w64] <;> omega
 have htk : s.data.toList.take (i + 1)=s.data.toList.take i ++ [s.data.toList[i]]:=by rw [List.take_succ_eq_append_getElem hi]
 refine Eve.ite (fun _ => ?_) (fun h => absurd (by omega) h);refine Eve.ite (fun _ => ?_) (fun h => absurd (by omega) h);refine Eve.ite (fun h => ?_) (fun h => ?_)
 ·
  have hc : s.data.toList[i]=46:=by
   have : (s.data.toList[i]).toNat=(46 : UInt8).toNat:=by
    have e : (46 : UInt8).toNat=46:=rfl
    omega
   exact UInt8.toNat_inj.mp this
  refine Eve.ite (fun _ => ?_) (fun h => absurd h0 h);refine Eve.ite (fun _ => ?_) (fun h => absurd h1 h);refine Eve.ite (fun _ => ?_) (fun h => absurd (by omega) h);refine Eve.ite (fun _ => ?_) (fun h => absurd (by omega) h);rw [hw];refine (ih (out ++ [s.extract from_.toNat (i : Int).toNat],((i + 1 : Nat) : Int)) ⟨by simp;omega,by simp,by simp;omega⟩).eq ?_;simp only [Int.toNat_natCast];have e1 : (s.data.toList.take (i + 1)).drop (i + 1)=[]:=List.drop_of_length_le (by simp;omega);rw [e1,cutA,if_pos hc,ext,List.map_cons,List.append_assoc]
  rfl
 have hc : ¬ s.data.toList[i]=46:=fun e => h (by rw [e];rfl);rw [hw];refine (ih (out,from_) ⟨h0,by show from_≤((i + 1 : Nat) : Int);omega,by show out.length≤i + 1;omega⟩).eq ?_;show out ++ _=out ++ (cutA 46 _ (s.data.toList[i] :: _)).map mkB;rw [cutA,if_neg hc,htk,List.drop_append_of_le_length (by simp;omega)]
theorem split_impl (s : ByteArray) (hs : s.size≤1048576) : strings_Split.f s (⟨#[46]⟩ : ByteArray)=some ((cutA 46 [] s.data.toList).map mkB):=by
 unfold strings_Split.f;rw [if_pos (show (⟨#[46]⟩ : ByteArray).size=1 from rfl),if_pos (by omega),pieces_cutA]
theorem wi {i : Nat} (h : i≤9223372036854775806) : wrap64 ((i : Int) + 1)=((i + 1 : Nat) : Int):=w64 (by omega) (by omega)
theorem bt_get (a : ByteArray) (i : Nat) (h : i<(bytesOf a).length) : bt a (i : Int)=(bytesOf a)[i]:=by
 rw [← rd_bytesOf,rd_at _ _ h]
def isL (c : Int) : Bool:=(decide (97≤c) && decide (c≤122)) || (decide (65≤c) && decide (c≤90)) || (c == 95)
def isD (c : Int) : Bool:=decide (48≤c) && decide (c≤57)
theorem specL (c : Int) : spec_l00Letter.f c=some (isL c):=by
 unfold spec_l00Letter.f isL
 split <;> split <;> (try split) <;> (try split) <;> simp <;> omega
theorem implL (c : Int) : impl_isLetter.f c=some (isL c):=by
 unfold impl_isLetter.f isL
 split <;> split <;> (try split) <;> (try split) <;> simp <;> omega
theorem specD (c : Int) : spec_l00Digit.f c=some (isD c):=by
 unfold spec_l00Digit.f isD
 split <;> simp <;> omega
theorem implD (c : Int) : impl_isDigit.f c=some (isD c):=by
 unfold impl_isDigit.f isD
 split <;> simp <;> omega
def wgo (first : Bool) : List Int→Bool
 | [] => true
 | c :: cs => (isL c || (isD c && !first)) && wgo false cs
def word (s : ByteArray) : Bool:=wgo true (bytesOf s) && (decide (1≤(s.size : Int)) && decide ((s.size : Int)≤40))
theorem word_spec (s : ByteArray) (hs : s.size≤1048576) : Eve (fun k => spec_l00Word.f k s) (word s):=by
 have hn : (bytesOf s).length=s.size:=bytesOf_length s;have hj : Eve (fun k => spec_l00Word.j0 k s true) false:=Eve.succ (by simp only [spec_l00Word.j0,if_true];exact Eve.one);simp only [spec_l00Word.f];refine Eve.ite (fun h => hj.eq ?_) (fun h => ?_)
 ·
  have : decide (1≤(s.size : Int))=false:=by simp;omega
  simp [word,this]
 refine Eve.ite (fun h2 => hj.eq ?_) (fun h2 => ?_)
 ·
  have : decide ((s.size : Int)≤40)=false:=by simp;omega
  simp [word,this]
 refine Eve.ite (fun _ => ?_) (fun h => absurd (by omega) h)
 have hw : word s=wgo true (bytesOf s):=by
  have a1 : decide (1≤(s.size : Int))=true:=by simp;omega
  have a2 : decide ((s.size : Int)≤40)=true:=by simp;omega
  simp [word,a1,a2]
 have hb:=bt_get s 0 (by omega);simp only [show ((0 : Nat) : Int)=0 from rfl] at hb;have hc : bytesOf s=bt s 0 :: (bytesOf s).drop 1:=by rw [hb];exact drop_at (bytesOf s) 0 (by omega)
 simp only [specL,Option.bind_some]
 cases hl : isL (bt s 0) with
 | false =>
  refine hj.eq ?_;rw [hw,hc];simp [wgo,hl]
 | true =>
  refine Eve.succ ?_;simp only [spec_l00Word.j0,Bool.not_true,Bool.false_eq_true,if_false]
  have:=ev_loop (bytesOf s) (fun k (_ : Unit) i => spec_l00Word.l0 k s i) (fun _ _ r => wgo false r) (fun i _ => 1≤i) (fun _ _ => by
   simp only [spec_l00Word.l0]
   exact Eve.ite (fun h => absurd h (by omega)) (fun _ => Eve.one)) (fun i hi _ hI ih => by
   have hnx:=ih () (by omega);simp only [spec_l00Word.l0,specL,specD,Option.bind_some,wi (show i≤9223372036854775806 by omega),bt_get s i hi];refine Eve.ite (fun _ => ?_) (fun h => absurd (by omega) h);refine Eve.ite (fun _ => ?_) (fun h => absurd (by omega) h);refine Eve.ite (fun h1 => hnx.eq (by simp [wgo,h1])) (fun h1 => ?_)
   exact Eve.ite (fun h2 => hnx.eq (by simp [wgo,h2])) (fun h2 => Eve.one.eq (by simp [wgo,h1,h2]))) ((bytesOf s).length - 1) 1 () (by omega) (by omega)
  refine this.eq ?_;rw [hw]
  conv => rhs;rw [hc]
  simp [wgo,hl]
theorem word_impl (s : ByteArray) (hs : s.size≤1048576) : Eve (fun k => impl_NameOK.f k s) (word s):=by
 have hn : (bytesOf s).length=s.size:=bytesOf_length s;simp only [impl_NameOK.f];refine ev_loop0 (bytesOf s) (fun k (_ : Unit) i => impl_NameOK.l0 k s (s.size : Int) i) (fun i _ r => wgo (decide (i=0)) r && (decide (1≤(s.size : Int)) && decide ((s.size : Int)≤40))) (fun _ _ => True) (fun _ _ => ?_) (fun i hi _ _ ih => ?_) () trivial
 ·
  simp only [impl_NameOK.l0]
  refine Eve.ite (fun h => absurd h (by omega)) (fun _ => Eve.all fun k => ?_);unfold impl_inRange.f
  by_cases h : 1≤(s.size : Int)
  ·
   rw [if_pos h];simp [wgo,h]
  rw [if_neg h];simp [wgo,h]
 have hnx:=ih () trivial;simp only [Nat.add_one_ne_zero,decide_false] at hnx;simp only [impl_NameOK.l0,implL,implD,Option.bind_some,wi (show i≤9223372036854775806 by omega),bt_get s i hi];refine Eve.ite (fun _ => ?_) (fun h => absurd (by omega) h);refine Eve.ite (fun _ => ?_) (fun h => absurd (by omega) h);refine Eve.ite (fun _ => ?_) (fun h => absurd (by omega) h);refine Eve.ite (fun h1 => hnx.eq (by simp [wgo,h1])) (fun h1 => ?_);refine Eve.ite (fun h2 => ?_) (fun h2 => Eve.one.eq (by simp [wgo,h1,h2]));refine Eve.ite (fun h3 => Eve.one.eq ?_) (fun h3 => hnx.eq ?_)
 ·
  obtain rfl : i=0:=by omega
  simp [wgo,h1]
 have : ¬ i=0:=by omega
 simp [wgo,h2,this]
def nam (s : ByteArray) : Bool:=word s && decide ((s.size : Int)≤12)
theorem nam_spec (s : ByteArray) (hs : s.size≤1048576) : Eve (fun k => spec_l01Name.f k s) (nam s):=by
 simp only [spec_l01Name.f,spec_NameOK.f];refine Eve.bind (v:=word s) (Eve.bind (word_spec s hs) Eve.one) ?_;refine Eve.ite (fun h => Eve.one.eq (by simp [nam,h])) (fun h => Eve.one.eq (by simp [nam,h]))
theorem nam_impl (s : ByteArray) (hs : s.size≤1048576) : Eve (fun k => impl_isShort.f k s) (nam s):=by
 simp only [impl_isShort.f];refine Eve.ite (fun h => (Eve.bind (word_impl s hs) Eve.one).eq (by simp [nam,h])) (fun h => Eve.one.eq (by simp [nam,h]))
def names (s : ByteArray) : List ByteArray:=(cutA 46 [] s.data.toList).map mkB
theorem names_le (s : ByteArray) (x : ByteArray) (h : x ∈ names s) : x.size≤s.size:=by
 obtain ⟨l,hl,rfl⟩:=List.mem_map.1 h;have:=cutA_le 46 s.data.toList [] l hl;show l.toArray.size≤s.data.size
 simpa using this
def pth (s : ByteArray) : Bool:=decide ((s.size : Int)≤50) && (decide (((names s).length : Int)≤4) && (names s).all nam)
theorem pth_loop (l : List ByteArray) (hl : ∀ x ∈ l,x.size≤1048576) (hn : l.length≤1048576) : Eve (fun k => spec_PathOK.l0 k l 0) (l.all nam):=by
 refine ev_all l (fun k i => spec_PathOK.l0 k l i) nam ?_ ?_
 ·
  simp only [spec_PathOK.l0]
  exact Eve.ite (fun h => absurd h (by omega)) (fun _ => Eve.one)
 intro i hi v ih;simp only [spec_PathOK.l0];refine Eve.ite (fun _ => ?_) (fun h => absurd (by omega) h);refine Eve.ite (fun _ => ?_) (fun h => absurd (by omega) h);rw [rdOf_at _ _ _ hi];refine Eve.bind (nam_spec l[i] (hl _ (List.getElem_mem hi))) ?_;rw [show wrap64 ((i : Int) + 1)=((i + 1 : Nat) : Int) by rw [w64] <;> omega];refine Eve.ite (fun h => ih.eq (by rw [h];simp)) (fun h => Eve.one.eq (by simp at h;rw [h];simp))
theorem names_len (s : ByteArray) : (names s).length≤s.size + 1:=by
 have : ∀ (l acc : List UInt8),(cutA 46 acc l).length≤l.length + 1:=by
  intro l
  induction l with
  | nil => intro acc;simp [cutA]
  | cons b l ih =>
   intro acc;unfold cutA
   split
   ·
    have:=ih [];simp;omega
   have:=ih (acc ++ [b]);simp;omega
 have h:=this s.data.toList [];have hlen : s.data.toList.length=s.size:=by rw [Array.length_toList];rfl
 unfold names;rw [List.length_map]
 omega
theorem pth_spec (s : ByteArray) (hs : s.size≤1048576) : Eve (fun k => spec_PathOK.f k s) (pth s):=by
 simp only [spec_PathOK.f];refine Eve.ite (fun h => Eve.one.eq (by unfold pth;rw [decide_eq_false (by omega)];rfl)) (fun h1 => ?_);refine Eve.bind (cut_spec s hs) ?_;have hl:=pth_loop (names s) (fun x hx => Nat.le_trans (names_le s x hx) hs) (by have:=names_len s;omega);change Eve _ _ at hl;refine Eve.ite (fun h => ?_) (fun h => ?_)
 ·
  refine Eve.succ ?_
  simp only [spec_PathOK.j0,if_true];refine Eve.one.eq ?_;unfold pth;rw [decide_eq_false (p:=((names s).length : Int)≤4) (by unfold names;omega)];simp
 refine Eve.succ ?_;simp only [spec_PathOK.j0,decide_eq_true_eq];refine Eve.ite (fun h2 => Eve.one.eq ?_) (fun h2 => hl.eq ?_)
 ·
  unfold pth;rw [decide_eq_false (p:=(s.size : Int)≤50) (by omega)];rfl
 unfold pth;rw [decide_eq_true (p:=(s.size : Int)≤50) (by omega),decide_eq_true (p:=((names s).length : Int)≤4) (by unfold names;omega)];rfl
theorem pth_index (l : List ByteArray) (hl : ∀ x ∈ l,x.size≤1048576) (hn : l.length≤1048576) : Eve (fun k => slices_ContainsFunc_string_string_at_PathOK_1.f k l) (!(l.all nam)):=by
 simp only [slices_ContainsFunc_string_string_at_PathOK_1.f,slices_IndexFunc_string_string_at_PathOK_1.f];have hi:=ev_loop0 l (fun k (_ : Unit) i => slices_IndexFunc_string_string_at_PathOK_1.l0 k l (l.length : Int) i) (fun i _ r => first (fun x => !(nam x)) r i) (fun _ _ => True) ?_ ?_ () trivial
 ·
  refine Eve.bind hi ?_
  refine Eve.one.eq ?_;have h:=first_any (fun x => !(nam x)) l 0;have h2 : (l.any fun x => !(nam x)) = !(l.all nam):=by rw [List.all_eq_not_any_not];simp
  rw [← h2,← h]
 ·
  intro _ _
  simp only [slices_IndexFunc_string_string_at_PathOK_1.l0];exact Eve.ite (fun h => absurd h (by omega)) (fun _ => Eve.one)
 intro i hi _ _ ih;have ih:=ih () trivial;simp only [slices_IndexFunc_string_string_at_PathOK_1.l0];refine Eve.ite (fun _ => ?_) (fun h => absurd (by omega) h);refine Eve.ite (fun _ => ?_) (fun h => absurd (by omega) h);refine Eve.ite (fun _ => ?_) (fun h => absurd (by omega) h);rw [rdOf_at _ _ _ hi];simp only [impl_PathOK_1.f];refine Eve.bind (v:=!(nam l[i])) (Eve.bind (nam_impl l[i] (hl _ (List.getElem_mem hi))) Eve.one) ?_;rw [show wrap64 ((i : Int) + 1)=((i + 1 : Nat) : Int) by rw [w64] <;> omega];refine Eve.ite (fun h => Eve.one.eq (by simp [first,h])) (fun h => ih.eq (by simp [first,h]))
theorem pth_impl (s : ByteArray) (hs : s.size≤1048576) : Eve (fun k => impl_PathOK.f k s) (pth s):=by
 simp only [impl_PathOK.f,split_impl s hs,Option.bind_some];unfold pth;refine Eve.ite (fun h => ?_) (fun h => Eve.one.eq (by rw [decide_eq_false h];rfl));rw [decide_eq_true h];refine Eve.ite (fun h2 => ?_) (fun h2 => Eve.one.eq (by rw [decide_eq_false (p:=((names s).length : Int)≤4) h2];rfl));rw [decide_eq_true (p:=((names s).length : Int)≤4) h2];refine Eve.bind (pth_index (names s) (fun x hx => Nat.le_trans (names_le s x hx) hs) (by have:=names_len s;omega)) ?_;exact Eve.one.eq (by simp)
theorem FnExactPathOK : laws_FnExactPathOK.Pure:=by
 intro s _;refine Eve.get ?_;simp only [laws_FnExactPathOK.f];refine Eve.ite (fun _ => Eve.one) (fun h => ?_);refine Eve.bind (pth_spec s (by omega)) (Eve.bind (pth_impl s (by omega)) ?_);refine Eve.ite (fun h => absurd h (by simp)) (fun _ => Eve.one)
end Go.Proofs.YtmhomllbfblmjaaDoor.Pure
end
section
namespace Go.Proofs.YtmhomllbfblmjaaDoor.fnExactPathOK
open Go.ChangeShapes Go.WideShapes Go.ChangeAt Go.RowKit Go.Proofs.YtmhomllbfblmjaaDoorW.PrintWords Go.Proofs.YtmhomllbfblmjaaDoorW.PrintOpen Go.Proofs.YtmhomllbfblmjaaDoor.Q
open Go.ChangeMaps (open_string shut_string)
set_option linter.unusedVariables false
noncomputable def doorWorld (os : Os) : World :=
 { World.doorLaid Tryd.prog 19 os with heap:=(World.doorLaid Tryd.prog 19 os).heap.modify 1 fun
   | .cells _ t frozen => .cells (Go.Pinned.utf8FirstZ.map fun (z : Nat) => Value.int .u8 z).toArray t frozen
   | o => o }
abbrev laid1 : List (String × DataW Unit) := [("unicode/utf8.acceptRanges", Rows.laid_unicode_utf8_acceptRanges), ("unicode/utf8.first", Rows.laid_unicode_utf8_first)]
theorem door_met (os : Os) (args : Array Value) : laidMetH Tryd.prog laid1 ((doorWorld os).forCall (fun _ _ => 0) ⟨#[],args,[]⟩).memory :=
 laidMetH_of_parts3 (fuel:=8) (laidMet_of_run' 8 (by kernel_rfl) (by kernel_rfl)) (by kernel_rfl) (by kernel_rfl)
theorem own : ownKnob Tryd.prog.godebug=none:=by kernel_rfl
theorem laidOut : laidOutB Tryd.prog=true:=by kernel_rfl
set_option maxRecDepth 100000 in
theorem lifted (os : Os) (started : os.Started) (H : Type) (enc : TypeId×Value→H) :
  ReturnsInHanded {} Tryd.checked os 3 .any (fun w args => (Rows.fnExactPathOKSpec.pre enc Tryd.prog Tryd.f3 [] false w args∧laidMetH Tryd.prog laid1 w)∧sizedMet enc Tryd.prog Tryd.f3 (OpenSpec.ofChange Rows.fnExactPathOKSpec) false w args)
   (Rows.fnExactPathOKSpec.post enc Tryd.prog Tryd.f3 false true false false):=by
 refine returnsInHanded_of_change_and (C:=Tryd.checked) (X:=fun w _ => laidMetH Tryd.prog laid1 w) (fun _ _ _ hh h => h.of_heap hh) own started (by kernel_rfl) Tryd.func3
  (ChangeSpec.witness_shaped (enc:=enc) (C:=Tryd.checked) (os:=os) (X:=fun w _ => laidMetH Tryd.prog laid1 w) false (doorWorld os) #[.string ByteArray.empty] 8 rfl (World.shaped_of_RefB (by kernel_rfl) (by kernel_rfl)) (by kernel_rfl) (by kernel_rfl) (by kernel_rfl) (door_met os _)) ?_
 intro W base args ds gs before hval0 hW hcnd hsz0 hL _
 have hval : ∀ (j : Nat) t v,Tryd.f3.params[j]? = some t→args[j]? = some v→Value.okWide Tryd.prog W .any base t v:=hval0
 have hW':=hW
 obtain ⟨p,q,hA0,hV,rfl,hfz,hnd⟩:=hW
 have hA : DataW.TrodAll enc Tryd.prog W 0 (fun _ => true) true Tryd.f3.params.toList args.toList ds p:=hA0
 rw [Tryd.params3] at hA hval
 obtain ⟨v0,vs0,d0,ds0,p0,q0,hargs,rfl,rfl,h0,r0⟩:=trodAll_cons hA
 obtain ⟨rfl,rfl,rfl⟩:=trodAll_nil r0
 obtain rfl : args = #[v0]:=by cases args;simp_all
 obtain ⟨rfl,rfl⟩:=trodVars_none hV
 obtain ⟨x0,rfl,rfl,rfl,y0⟩:=open_string Tryd.underlying9 (hval 0 9 v0 rfl rfl) h0
 have g0 : x0.size≤9223372036854775807:=by have:=y0;unfold maxLen at this;exact this
 clear hA0 hval0 hsz0
 obtain ⟨k,hp⟩:=Pure.FnExactPathOK x0 g0
 refine (laws_FnExactPathOK.calls k x0 true W  hp).mono fun e W' ⟨he,bel0⟩ => ?_
 have bel : Below W.heap.size W W':=bel0
 subst he
 exact ⟨_,rfl,_,_,_,[],_,[],hW',trodAll_mk1 (shut_bool Tryd.underlying4 _),(trodAll_cons_mk (shut_string Tryd.underlying9 y0) trodAll_mk0),rfl,bel.frame _,fun h => by cases h⟩
theorem over : Rows.fnExactPathOKRow.holds Tryd.pinned (OpenSpec.ofChange Rows.fnExactPathOKSpec) :=
 OpenClaim.holds_of_wide 3 Tryd.f3 rfl rfl rfl rfl rfl rfl rfl ⟨rfl,rfl,rfl,rfl,rfl⟩ rfl rfl rfl rfl rfl (by kernel_rfl) Tryd.func3 (by kernel_rfl)
  (of_decide_eq_true (by kernel_rfl)) (by unfold Func.isWrapper;first|(rw [if_pos (by decide +kernel)];kernel_rfl)|(rw [if_neg (by decide +kernel)];exact ⟨rfl,rfl⟩))
  (fun os started H enc _ => lifted os started H enc)
theorem card : Rows.FnExactPathOKCardSaid :=
 Claim7.holds_tied_plain_at .later [] _ true _ false
  over (fun _ h => by cases h) (by kernel_rfl) (fun _ h => by cases h) fnExactPathOK_row_tie rfl ⟨rfl,rfl⟩ (by kernel_rfl) rfl
  (fun f fn hf hfn => by
   obtain rfl : f = 3 := Option.some.inj ((show Tryd.prog.funcNamed "loop.example/g00380/laws.FnExactPathOK" = some 3 by kernel_rfl).symm.trans hf) |>.symm
   obtain rfl : fn=Tryd.f3:=(Option.some.inj (Tryd.func3.symm.trans hfn)).symm
   exact ⟨by kernel_rfl,fun j t ht => by
    rw [Tryd.params3] at ht
    have hm : t ∈ [9]:=by simpa using Array.mem_of_getElem? ht
    have hall : ([9].all fun u => !Tryd.prog.wantsStandIn u)=true:=by kernel_rfl
    exact (show Tryd.prog.wantsStandIn t=false by simpa using List.all_eq_true.1 hall t hm)⟩)
  (by kernel_rfl)
#print axioms card
end Go.Proofs.YtmhomllbfblmjaaDoor.fnExactPathOK
namespace Go.Proofs.YtmhomllbfblmjaaDoor
theorem fnExactPathOK_holds : Rows.FnExactPathOKCardSaid:=fnExactPathOK.card
end Go.Proofs.YtmhomllbfblmjaaDoor
end
