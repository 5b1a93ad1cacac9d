/- Texts of this claim, merged by a program of this session. -/
import Derived.Test.YthjgfjlogilleaaDoorProg
import Derived.Below
import Derived.Deep.Draws
import Derived.Deep.AppendLies
import Derived.Maps.AppendAt
import Derived.OwnWalk
import Derived.Laws.BytesArg
import Derived.Laws.MakeOwn
import Derived.Laws.OwnMore
import Derived.Deep.OwnRows
import Derived.Tactics
import Derived.Lib.ConvBytes
import Derived.Laws.Slices
import Derived.WalkKit
import Derived.KernelRfl
import Derived.RowKit3
import Derived.Deep.LoopGhost
import Derived.Deep.QuietTactic
import Derived.BigQuiet
import Derived.WideLaws
import Derived.Deep.DeepCutAuto
import Derived.Deep.CutBlock
import Derived.Deep.RegionHeld3
import Derived.Laws.Rows
import Derived.Lib.AppendStr
import Derived.ArgAppend
import Derived.Laws.IdiomCopy
import Derived.OrdersHeld
import Derived.Laws.BitsLemmas
import Derived.RowKit
import Derived.Lib.Strings
import Derived.Lib.Slices
import Derived.Lib.Walk
import Derived.Lib.Bytealg
import Derived.Test.YthjgfjlogilleaaDoorKLawFnExactTermOKp12
import Derived.Test.YthjgfjlogilleaaDoorKLawFnExactTermOKp0
import Derived.Test.YthjgfjlogilleaaDoorKLawFnExactTermOKp1
import Derived.Test.YthjgfjlogilleaaDoorKLawFnExactTermOKp13
import Derived.Test.YthjgfjlogilleaaDoorKLawFnExactTermOKp14
import Derived.Test.YthjgfjlogilleaaDoorKLawFnExactTermOKp2
import Derived.Test.YthjgfjlogilleaaDoorKLawFnExactTermOKp3
import Derived.Test.YthjgfjlogilleaaDoorKLawFnExactTermOKp4
import Derived.Test.YthjgfjlogilleaaDoorKLawFnExactTermOKp5
import Derived.Test.YthjgfjlogilleaaDoorKLawFnExactTermOKp6
import Derived.Test.YthjgfjlogilleaaDoorKLawFnExactTermOKp7
import Derived.Test.YthjgfjlogilleaaDoorKLawFnExactTermOKp8
import Derived.Test.YthjgfjlogilleaaDoorKLawFnExactTermOKp9
import Derived.Test.YthjgfjlogilleaaDoorKLawFnExactTermOKp15
import Derived.Test.YthjgfjlogilleaaDoorKLawFnExactTermOKp16
import Derived.Test.YthjgfjlogilleaaDoorKLawFnExactTermOKp17
import Derived.Test.YthjgfjlogilleaaDoorKLawFnExactTermOKp18
import Derived.Test.YthjgfjlogilleaaDoorKLawFnExactTermOKp19
import Derived.Test.YthjgfjlogilleaaDoorKLawFnExactTermOKp20
import Derived.Test.YthjgfjlogilleaaDoorKLawFnExactTermOKp21
import Derived.Test.YthjgfjlogilleaaDoorKLawFnExactTermOKp10
import Derived.Test.YthjgfjlogilleaaDoorKLawFnExactTermOKp11
section
namespace Go.Proofs.YthjgfjlogilleaaDoor.Q
open Go.RowKit Go.Proofs.YthjgfjlogilleaaDoorW.PrintWords Go.Proofs.YthjgfjlogilleaaDoorW.PrintLast Go.Proofs.YthjgfjlogilleaaDoorW.PrintMore
attribute [local go_sem] max2_int min2_int max_two min_two max_three min_three max_four min_four max2_str min2_str str_geq str_gtr str_leq
set_option linter.unusedVariables false
set_option linter.unusedSimpArgs false



def errW : Option Int→Value
 | none => .nilIface
 | some c => .iface 0 (.int .i64 c)
theorem errW_none : errW none = .nilIface:=rfl
theorem errW_some (c : Int) : errW (some c) = .iface 0 (.int .i64 c):=rfl

theorem info9 : (Tryd.prog.info? 9).map (fun i => (i.zero,i.size,i.bytes))=some (some (.string ⟨#[]⟩),1,16):=by kernel_rfl
theorem info39 : (Tryd.prog.info? 39).map (fun i => (i.zero,i.size,i.bytes))=some (some (.agg #[(.int .i64 0),(.int .i64 0),(.string ⟨#[]⟩)]),3,32):=by kernel_rfl
theorem info92 : (Tryd.prog.info? 92).map (fun i => (i.zero,i.size,i.bytes))=some (some (.agg #[(.string ⟨#[]⟩),(.int .i64 0),(.int .i64 0),(.string ⟨#[]⟩)]),4,48):=by kernel_rfl
-- the values' own types
structure S73 where
 f0 : ByteArray
 f1 : Bool
def z73 : S73:=⟨(⟨#[]⟩ : ByteArray),false⟩
def k73 : Kd S73:=Kd.iso (Kd.pair Kd.string Kd.bool) (fun x : S73 => (x.f0,x.f1))
def rd_T73 (xs : List S73) (i : Int) : S73:=xs.getD i.toNat z73
structure S62 where
 f0 : ByteArray
 f1 : Bool
def z62 : S62:=⟨(⟨#[]⟩ : ByteArray),false⟩
def k62 : Kd S62:=Kd.iso (Kd.pair Kd.string Kd.bool) (fun x : S62 => (x.f0,x.f1))
def rd_T62 (xs : List S62) (i : Int) : S62:=xs.getD i.toNat z62
def rd_L4 (xs : List (List S73)) (i : Int) : (List S73):=xs.getD i.toNat ([] : List S73)
structure S24 where
 f0 : ByteArray
 f1 : (List S73)
def z24 : S24:=⟨(⟨#[]⟩ : ByteArray),([] : List S73)⟩
def k24 : Kd S24:=Kd.iso (Kd.pair Kd.string (Kd.slice 73 k73)) (fun x : S24 => (x.f0,x.f1))
def rd_T24 (xs : List S24) (i : Int) : S24:=xs.getD i.toNat z24
structure S39 where
 f0 : Int
 f1 : Int
 f2 : ByteArray
def z39 : S39:=⟨(0 : Int),(0 : Int),(⟨#[]⟩ : ByteArray)⟩
def k39 : Kd S39:=Kd.iso (Kd.pair (Kd.int .i64) (Kd.pair (Kd.int .i64) Kd.string)) (fun x : S39 => (x.f0,x.f1,x.f2))
theorem k39_open {w : World} {x : S39} {cs : List Value} (h : k39.K w x cs) : cs=[.int .i64 x.f0,.int .i64 x.f1,.string x.f2]:=by
 obtain ⟨_,_,rfl,rfl,⟨_,_,rfl,rfl,rfl⟩⟩:=h
 exact rfl
theorem k39_mkM (w : World) (base : Nat) (ok : Nat→Prop) (x : S39)  : k39.M w base ok x [.int .i64 x.f0,.int .i64 x.f1,.string x.f2]:=⟨[.int .i64 x.f0],[.int .i64 x.f1,.string x.f2],rfl,rfl,⟨[.int .i64 x.f1],[.string x.f2],rfl,rfl,rfl⟩⟩
def rd_T39 (xs : List S39) (i : Int) : S39:=xs.getD i.toNat z39
theorem at_T39 {w : World} {A : Option Addr} {n : Nat} {xs : List S39} (h : Kd.C k39 w A n xs) (i : Int) (h0 : 0≤i) (h1 : i<n) : ∃ ad ,A=some ad∧w.cell? (ad.add (i.toNat * 3))=some (.int .i64 (rd_T39 xs i).f0)∧w.cell? ⟨(ad.add (i.toNat * 3)).block,(ad.add (i.toNat * 3)).off + 1,none⟩=some (.int .i64 (rd_T39 xs i).f1)∧w.cell? ⟨(ad.add (i.toNat * 3)).block,(ad.add (i.toNat * 3)).off + 2,none⟩=some (.string (rd_T39 xs i).f2):=by
 obtain ⟨ad,c,e,_,hK,hc0⟩:=Kd.C_get h z39 i h0 h1
 have hc : ∀ j u,c[j]? = some u→w.cell? (ad.add (i.toNat * 3 + j))=some u:=hc0
 obtain rfl:=k39_open hK
 exact ⟨ad,e,hc 0 _ rfl,by rw [← add_field _ _ 1 (by omega)];exact hc 1 _ rfl,by rw [← add_field _ _ 2 (by omega)];exact hc 2 _ rfl⟩

structure S92 where
 f0 : ByteArray
 f1 : S39
def z92 : S92:=⟨(⟨#[]⟩ : ByteArray),z39⟩
def k92 : Kd S92:=Kd.iso (Kd.pair Kd.string k39) (fun x : S92 => (x.f0,x.f1))
theorem k92_open {w : World} {x : S92} {cs : List Value} (h : k92.K w x cs) : cs=[.string x.f0,.int .i64 x.f1.f0,.int .i64 x.f1.f1,.string x.f1.f2]:=by
 obtain ⟨_,_,rfl,rfl,s1⟩:=h
 obtain rfl:=k39_open s1
 exact rfl
theorem k92_mkM (w : World) (base : Nat) (ok : Nat→Prop) (x : S92)  : k92.M w base ok x [.string x.f0,.int .i64 x.f1.f0,.int .i64 x.f1.f1,.string x.f1.f2]:=⟨[.string x.f0],[.int .i64 x.f1.f0,.int .i64 x.f1.f1,.string x.f1.f2],rfl,rfl,(k39_mkM w base ok x.f1 )⟩
def rd_T92 (xs : List S92) (i : Int) : S92:=xs.getD i.toNat z92
theorem at_T92 {w : World} {A : Option Addr} {n : Nat} {xs : List S92} (h : Kd.C k92 w A n xs) (i : Int) (h0 : 0≤i) (h1 : i<n) : ∃ ad ,A=some ad∧w.cell? (ad.add (i.toNat * 4))=some (.string (rd_T92 xs i).f0)∧w.cell? ⟨(ad.add (i.toNat * 4)).block,(ad.add (i.toNat * 4)).off + 1,none⟩=some (.int .i64 (rd_T92 xs i).f1.f0)∧w.cell? ⟨(ad.add (i.toNat * 4)).block,(ad.add (i.toNat * 4)).off + 2,none⟩=some (.int .i64 (rd_T92 xs i).f1.f1)∧w.cell? ⟨(ad.add (i.toNat * 4)).block,(ad.add (i.toNat * 4)).off + 3,none⟩=some (.string (rd_T92 xs i).f1.f2):=by
 obtain ⟨ad,c,e,_,hK,hc0⟩:=Kd.C_get h z92 i h0 h1
 have hc : ∀ j u,c[j]? = some u→w.cell? (ad.add (i.toNat * 4 + j))=some u:=hc0
 obtain rfl:=k92_open hK
 exact ⟨ad,e,hc 0 _ rfl,by rw [← add_field _ _ 1 (by omega)];exact hc 1 _ rfl,by rw [← add_field _ _ 2 (by omega)];exact hc 2 _ rfl,by rw [← add_field _ _ 3 (by omega)];exact hc 3 _ rfl⟩

structure S34 where
 f0 : Int
 f1 : Int
 f2 : ByteArray
def z34 : S34:=⟨(0 : Int),(0 : Int),(⟨#[]⟩ : ByteArray)⟩
def k34 : Kd S34:=Kd.iso (Kd.pair (Kd.int .i64) (Kd.pair (Kd.int .i64) Kd.string)) (fun x : S34 => (x.f0,x.f1,x.f2))
theorem k34_open {w : World} {x : S34} {cs : List Value} (h : k34.K w x cs) : cs=[.int .i64 x.f0,.int .i64 x.f1,.string x.f2]:=by
 obtain ⟨_,_,rfl,rfl,⟨_,_,rfl,rfl,rfl⟩⟩:=h
 exact rfl
def rd_T34 (xs : List S34) (i : Int) : S34:=xs.getD i.toNat z34
structure S36 where
 f0 : Int
 f1 : ByteArray
 f2 : S34
def z36 : S36:=⟨(0 : Int),(⟨#[]⟩ : ByteArray),z34⟩
def k36 : Kd S36:=Kd.iso (Kd.pair (Kd.int .i64) (Kd.pair Kd.string k34)) (fun x : S36 => (x.f0,x.f1,x.f2))
def rd_T36 (xs : List S36) (i : Int) : S36:=xs.getD i.toNat z36
structure S44 where
 f0 : Int
 f1 : ByteArray
 f2 : S34
def z44 : S44:=⟨(0 : Int),(⟨#[]⟩ : ByteArray),z34⟩
def k44 : Kd S44:=Kd.iso (Kd.pair (Kd.int .i64) (Kd.pair Kd.string k34)) (fun x : S44 => (x.f0,x.f1,x.f2))
theorem k44_open {w : World} {x : S44} {cs : List Value} (h : k44.K w x cs) : cs=[.int .i64 x.f0,.string x.f1,.int .i64 x.f2.f0,.int .i64 x.f2.f1,.string x.f2.f2]:=by
 obtain ⟨_,_,rfl,rfl,⟨_,_,rfl,rfl,s2⟩⟩:=h
 obtain rfl:=k34_open s2
 exact rfl
def rd_T44 (xs : List S44) (i : Int) : S44:=xs.getD i.toNat z44
abbrev bm_ (i n : Nat) : Array Bool:=(List.replicate i true ++ List.replicate (n - i) false).toArray
abbrev za:=@below_alloc
abbrev zb:=@pw_below_drewN
abbrev zc:=@below_drew1
abbrev zd:=@below_set
abbrev ze:=@blk_drewN
abbrev zf:=@blk_drew
abbrev zg:=@blk_alloc
abbrev zh:=@Aside0.mk
abbrev zi:=@List.setIfInBounds_toArray
abbrev zj:=@List.set_cons_zero
abbrev zk:=@List.set_cons_succ
abbrev zl:=@World.block_lt_of_cell?
abbrev zm:=@Kd.R_alloc
abbrev zn:=@Kd.R_drewN
abbrev zo:=@Kd.R_drew
abbrev zp:=@Kept.drewN
abbrev zq:=@Kept.drew
abbrev zr:=@Kept.alloc
abbrev zs:=@Kept.setCell
abbrev zt:=@List.map_toArray
abbrev zu:=@List.map_cons
abbrev zv:=@List.map_nil
abbrev zw:=@List.length_drop
abbrev zx:=@List.length_take
abbrev zy:=@of_decide_eq_true
abbrev zz:=@blk_cell
abbrev zA:=@blk_frozen
abbrev zB:=@below_size
abbrev zC:=@below_step
abbrev zD:=@blk_below
abbrev zE:=@Kd.R_far
abbrev zF:=@add_block
abbrev zG:=@i64_w
abbrev zH:=@i32_w
abbrev zI:=@box_event
abbrev zJ:=@gate_callee
abbrev zK:=@gate_dst
abbrev zL:=@blk_put
abbrev zM:=@Kd.R_mono
abbrev zN:=@LeO.none
abbrev zO:=@LeO.bind
abbrev zP:=@LeO.ite
abbrev zQ:=@LeO.refl
abbrev zR:=@cell_far
abbrev zS:=@blk_far
abbrev zT:=@Option.bind_eq_some_iff
abbrev zU:=@Option.some.inj
abbrev zV:=@Int.ofNat_lt
abbrev zW:=@Int.ofNat_le
abbrev zX:=@bne_eq_false_iff_eq
abbrev zY:=@beq_eq_false_iff_ne
abbrev zZ:=@bne_iff_ne
abbrev ya:=@beq_iff_eq
abbrev yb:=@Bool.eq_false_iff
abbrev yc:=@Nat.ne_of_lt
abbrev yd:=@Nat.ne_of_gt
abbrev ye:=@Nat.le_refl
abbrev yf:=@Kd.R_types
abbrev yg:=@Kd.R_below
abbrev yh:=@Kd.R_reads'
abbrev yi:=@blk_lt
abbrev yj:=@goesL_
abbrev yk:=@Kd.R_slice
abbrev yl:=@KeepBut.set_
abbrev ym:=@keep_drewN
abbrev yn:=@keep_alloc
abbrev yo:=@take_ofW
abbrev yp:=@Drawn0.refl
abbrev yq:=@Drawn0.step
abbrev yr:=@gt_iff_lt
abbrev ys:=@ge_iff_le
abbrev yt:=@errW_none
abbrev yu:=@errW_some
abbrev yv:=@Kd.R_away
abbrev yw:=@blk_grown
abbrev yx:=@keep_drew
abbrev yy:=@Kd.R_lower
abbrev yz:=@gate_guard
abbrev yA:=@Kept.of_grown
abbrev yB:=@gate_builtin
end Go.Proofs.YthjgfjlogilleaaDoor.Q
end
section
namespace Go.Proofs.YthjgfjlogilleaaDoor.Q
open Go.RowKit Go.Proofs.YthjgfjlogilleaaDoorW.PrintWords Go.Proofs.YthjgfjlogilleaaDoorW.PrintLast Go.Proofs.YthjgfjlogilleaaDoorW.PrintMore
attribute [local go_sem] max2_int min2_int max_two min_two max_three min_three max_four min_four max2_str min2_str str_geq str_gtr str_leq   -- for this text's walks alone
set_option linter.unusedVariables false
set_option linter.unusedSimpArgs false

def laws_szValue.f (a0_0 : Int) (a0_1 : Int) (a0_2 : ByteArray) (a1 : Int) : Option (Int):=if (wrap64 (a1 - (a0_2.size : Int)))<0 then (some (-1)) else (some (wrap64 (a1 - (a0_2.size : Int))))
set_option maxHeartbeats 8000000 in
set_option maxRecDepth 100000 in
theorem laws_szValue.calls (a0_0 : Int) (a0_1 : Int) (a0_2 : ByteArray) (a1 : Int) (r : Int) (w : World) (h : laws_szValue.f a0_0 a0_1 a0_2 a1=some r) :
  Calls Tryd.prog 20 #[.agg #[.int .i64 a0_0,.int .i64 a0_1,.string a0_2],.int .i64 a1] w fun e w' => e = .returned (.int .i64 r)∧Below w.heap.size w w':=by
 have hu34:=Tryd.underlying34;have HB:=zh (Below.refl w.heap.size w);have H : (if (wrap64 (a1 - (a0_2.size : Int)))<0 then (some (-1)) else (some (wrap64 (a1 - (a0_2.size : Int)))))=some r:=h;clear h
 by_cases c3 : (wrap64 (a1 - (a0_2.size : Int)))<0
 ·
  rw [if_pos c3] at H
  have c3b0 : decide ((wrap64 (a1 - (a0_2.size : Int)))<0)=true:=decide_eq_true c3;clear c3;obtain rfl:=zU H
  go_enter Tryd.func20,Tryd.ntmps20
  go_wp2_with (first|((with_reducible refine zK (N:=2) rfl ?_);refine zI ?hg (N:=2) ?hd (cs:=#[.int .i64 a0_0,.int .i64 a0_1,.string a0_2]) (t:=34) ?hr ?_;(case hd => rfl);(case hg => rfl);(case hr => first|(go_simp;done)|(go_simp;rfl));intro gb199 hg w4 hbox hb;have BK199:=zh (hbox);have GW199:=zh ((by rw [hg];exact (zB (by repeat (with_reducible first|exact HB.out|apply za|apply zb|apply zc))) : w.heap.size≤gb199));have GE199:=zh ((by rw [hg];exact (zB (by repeat (with_reducible first|exact HB.out|apply za|apply zb|apply zc))) : w.heap.size≤gb199));replace HB:=zh (zC (by repeat (with_reducible first|exact HB.out|apply za|apply zb|apply zc)) hb);clear hb hbox hg;have hcz5_0 : w4.cell? ⟨gb199,0,none⟩=some (.int .i64 a0_0):=(zz BK199.out 0).trans rfl;have hcz5_1 : w4.cell? ⟨gb199,1,none⟩=some (.int .i64 a0_1):=(zz BK199.out 1).trans rfl;have hcz5_2 : w4.cell? ⟨gb199,2,none⟩=some (.string a0_2):=(zz BK199.out 2).trans rfl;have hfz5_0:=zA BK199.out 0;have hfz5_1:=zA BK199.out 1;have hfz5_2:=zA BK199.out 2))
  go_ret
  exact ⟨by first|rfl|(simp [yt,yu] <;> rfl)|(simp [*,yt,yu] <;> rfl),by repeat (with_reducible first|exact HB.out|apply za|apply zb|apply zc|refine zd ?_ GE199.out)⟩
 rw [if_neg c3] at H;have c3b0 : decide ((wrap64 (a1 - (a0_2.size : Int)))<0)=false:=decide_eq_false c3;clear c3;obtain rfl:=zU H
 go_enter Tryd.func20,Tryd.ntmps20
 go_wp2_with (first|((with_reducible refine zK (N:=2) rfl ?_);refine zI ?hg (N:=2) ?hd (cs:=#[.int .i64 a0_0,.int .i64 a0_1,.string a0_2]) (t:=34) ?hr ?_;(case hd => rfl);(case hg => rfl);(case hr => first|(go_simp;done)|(go_simp;rfl));intro gb199 hg w6 hbox hb;have BK199:=zh (hbox);have GW199:=zh ((by rw [hg];exact (zB (by repeat (with_reducible first|exact HB.out|apply za|apply zb|apply zc))) : w.heap.size≤gb199));have GE199:=zh ((by rw [hg];exact (zB (by repeat (with_reducible first|exact HB.out|apply za|apply zb|apply zc))) : w.heap.size≤gb199));replace HB:=zh (zC (by repeat (with_reducible first|exact HB.out|apply za|apply zb|apply zc)) hb);clear hb hbox hg;have hcz7_0 : w6.cell? ⟨gb199,0,none⟩=some (.int .i64 a0_0):=(zz BK199.out 0).trans rfl;have hcz7_1 : w6.cell? ⟨gb199,1,none⟩=some (.int .i64 a0_1):=(zz BK199.out 1).trans rfl;have hcz7_2 : w6.cell? ⟨gb199,2,none⟩=some (.string a0_2):=(zz BK199.out 2).trans rfl;have hfz7_0:=zA BK199.out 0;have hfz7_1:=zA BK199.out 1;have hfz7_2:=zA BK199.out 2))
 go_ret
 exact ⟨by first|rfl|(simp [yt,yu] <;> rfl)|(simp [*,yt,yu] <;> rfl),by repeat (with_reducible first|exact HB.out|apply za|apply zb|apply zc|refine zd ?_ GE199.out)⟩

end Go.Proofs.YthjgfjlogilleaaDoor.Q
end
section
namespace Go.Proofs.YthjgfjlogilleaaDoor.Q
open Go.RowKit Go.Proofs.YthjgfjlogilleaaDoorW.PrintWords Go.Proofs.YthjgfjlogilleaaDoorW.PrintLast Go.Proofs.YthjgfjlogilleaaDoorW.PrintMore
attribute [local go_sem] max2_int min2_int max_two min_two max_three min_three max_four min_four max2_str min2_str str_geq str_gtr str_leq   -- for this text's walks alone
set_option linter.unusedVariables false
set_option linter.unusedSimpArgs false

def laws_szTerm.f (a0_0 : Int) (a0_1 : ByteArray) (a0_2 : Int) (a0_3 : Int) (a0_4 : ByteArray) (a1 : Int) : Option (Int):=if (wrap64 (a1 - (a0_1.size : Int)))<0 then (some (-1)) else ((laws_szValue.f a0_2 a0_3 a0_4 (wrap64 (a1 - (a0_1.size : Int)))).bind fun t399 => (if t399<0 then (some (-1)) else (some t399)))
set_option maxHeartbeats 8000000 in
set_option maxRecDepth 100000 in
theorem laws_szTerm.calls (a0_0 : Int) (a0_1 : ByteArray) (a0_2 : Int) (a0_3 : Int) (a0_4 : ByteArray) (a1 : Int) (r : Int) (w : World) (h : laws_szTerm.f a0_0 a0_1 a0_2 a0_3 a0_4 a1=some r) :
  Calls Tryd.prog 16 #[.agg #[.int .i64 a0_0,.string a0_1,.int .i64 a0_2,.int .i64 a0_3,.string a0_4],.int .i64 a1] w fun e w' => e = .returned (.int .i64 r)∧Below w.heap.size w w':=by
 have hu44:=Tryd.underlying44;have hu34:=Tryd.underlying34;have HB:=zh (Below.refl w.heap.size w);have H : (if (wrap64 (a1 - (a0_1.size : Int)))<0 then (some (-1)) else ((laws_szValue.f a0_2 a0_3 a0_4 (wrap64 (a1 - (a0_1.size : Int)))).bind fun t399 => (if t399<0 then (some (-1)) else (some t399))))=some r:=h;clear h
 by_cases c3 : (wrap64 (a1 - (a0_1.size : Int)))<0
 ·
  rw [if_pos c3] at H
  have c3b0 : decide ((wrap64 (a1 - (a0_1.size : Int)))<0)=true:=decide_eq_true c3;clear c3;obtain rfl:=zU H
  go_enter Tryd.func16,Tryd.ntmps16
  go_wp2_with (first|((with_reducible refine zK (N:=2) rfl ?_);refine zI ?hg (N:=2) ?hd (cs:=#[.int .i64 a0_0,.string a0_1,.int .i64 a0_2,.int .i64 a0_3,.string a0_4]) (t:=44) ?hr ?_;(case hd => rfl);(case hg => rfl);(case hr => first|(go_simp;done)|(go_simp;rfl));intro gb398 hg w4 hbox hb;have BK398:=zh (hbox);have GW398:=zh ((by rw [hg];exact (zB (by repeat (with_reducible first|exact HB.out|apply za|apply zb|apply zc))) : w.heap.size≤gb398));have GE398:=zh ((by rw [hg];exact (zB (by repeat (with_reducible first|exact HB.out|apply za|apply zb|apply zc))) : w.heap.size≤gb398));replace HB:=zh (zC (by repeat (with_reducible first|exact HB.out|apply za|apply zb|apply zc)) hb);clear hb hbox hg;have hcz5_0 : w4.cell? ⟨gb398,0,none⟩=some (.int .i64 a0_0):=(zz BK398.out 0).trans rfl;have hcz5_1 : w4.cell? ⟨gb398,1,none⟩=some (.string a0_1):=(zz BK398.out 1).trans rfl;have hcz5_2 : w4.cell? ⟨gb398,2,none⟩=some (.int .i64 a0_2):=(zz BK398.out 2).trans rfl;have hcz5_3 : w4.cell? ⟨gb398,3,none⟩=some (.int .i64 a0_3):=(zz BK398.out 3).trans rfl;have hcz5_4 : w4.cell? ⟨gb398,4,none⟩=some (.string a0_4):=(zz BK398.out 4).trans rfl;have hfz5_0:=zA BK398.out 0;have hfz5_1:=zA BK398.out 1;have hfz5_2:=zA BK398.out 2;have hfz5_3:=zA BK398.out 3;have hfz5_4:=zA BK398.out 4))
  go_ret
  exact ⟨by first|rfl|(simp [yt,yu] <;> rfl)|(simp [*,yt,yu] <;> rfl),by repeat (with_reducible first|exact HB.out|apply za|apply zb|apply zc|refine zd ?_ GE398.out)⟩
 rw [if_neg c3] at H;have c3b0 : decide ((wrap64 (a1 - (a0_1.size : Int)))<0)=false:=decide_eq_false c3;clear c3;replace H:=zT.mp H;obtain ⟨t399,A60,H⟩:=H;replace H : (if t399<0 then (some (-1)) else (some t399))=some r:=H;have A6:=zh A60;clear A60
 by_cases c7 : t399<0
 ·
  rw [if_pos c7] at H
  have c7b0 : decide (t399<0)=true:=decide_eq_true c7;clear c7;obtain rfl:=zU H
  go_enter Tryd.func16,Tryd.ntmps16
  go_wp2_with (first|((with_reducible refine zK (N:=2) rfl ?_);refine zI ?hg (N:=2) ?hd (cs:=#[.int .i64 a0_0,.string a0_1,.int .i64 a0_2,.int .i64 a0_3,.string a0_4]) (t:=44) ?hr ?_;(case hd => rfl);(case hg => rfl);(case hr => first|(go_simp;done)|(go_simp;rfl));intro gb398 hg w8 hbox hb;have BK398:=zh (hbox);have GW398:=zh ((by rw [hg];exact (zB (by repeat (with_reducible first|exact HB.out|apply za|apply zb|apply zc))) : w.heap.size≤gb398));have GE398:=zh ((by rw [hg];exact (zB (by repeat (with_reducible first|exact HB.out|apply za|apply zb|apply zc))) : w.heap.size≤gb398));replace HB:=zh (zC (by repeat (with_reducible first|exact HB.out|apply za|apply zb|apply zc)) hb);clear hb hbox hg;have hcz9_0 : w8.cell? ⟨gb398,0,none⟩=some (.int .i64 a0_0):=(zz BK398.out 0).trans rfl;have hcz9_1 : w8.cell? ⟨gb398,1,none⟩=some (.string a0_1):=(zz BK398.out 1).trans rfl;have hcz9_2 : w8.cell? ⟨gb398,2,none⟩=some (.int .i64 a0_2):=(zz BK398.out 2).trans rfl;have hcz9_3 : w8.cell? ⟨gb398,3,none⟩=some (.int .i64 a0_3):=(zz BK398.out 3).trans rfl;have hcz9_4 : w8.cell? ⟨gb398,4,none⟩=some (.string a0_4):=(zz BK398.out 4).trans rfl;have hfz9_0:=zA BK398.out 0;have hfz9_1:=zA BK398.out 1;have hfz9_2:=zA BK398.out 2;have hfz9_3:=zA BK398.out 3;have hfz9_4:=zA BK398.out 4)|((with_reducible refine zJ (f:=20) rfl ?_);refine yj (some 15) rfl rfl Tryd.func20 (by kernel_rfl) rfl #[.agg #[.int .i64 a0_2,.int .i64 a0_3,.string a0_4],.int .i64 (wrap64 (a1 - (a0_1.size : Int)))] rfl (by (try simp only [zt,zu,zv]);first|done|rfl|(simp only [zw,zx];rfl)|(simp only [yr,ys,zV,zW];rfl)) ?_;(with_reducible refine (laws_szValue.calls  a0_2 a0_3 a0_4 (wrap64 (a1 - (a0_1.size : Int))) t399 _ A6.out).mono ?_);rintro e w10 ⟨rfl,hb⟩;refine ⟨_,rfl,?_⟩;replace BK398:=zh (zD (g:=gb398) (o:=.cells #[.int .i64 a0_0,.string a0_1,.int .i64 a0_2,.int .i64 a0_3,.string a0_4] 44 (0,0)) (by (with_reducible repeat (first|refine ze ?_ _|refine zf ?_|refine zg ?_ _));exact BK398.out) hb);replace HB:=zh (zC (by repeat (with_reducible first|exact HB.out|apply za|apply zb|apply zc|refine zd ?_ GE398.out)) hb);(try clear hb);(try clear hb2);(try clear hk);(try clear hi)))
  go_ret
  exact ⟨by first|rfl|(simp [yt,yu] <;> rfl)|(simp [*,yt,yu] <;> rfl),by repeat (with_reducible first|exact HB.out|apply za|apply zb|apply zc|refine zd ?_ GE398.out)⟩
 rw [if_neg c7] at H;have c7b0 : decide (t399<0)=false:=decide_eq_false c7;clear c7;obtain rfl:=zU H
 go_enter Tryd.func16,Tryd.ntmps16
 go_wp2_with (first|((with_reducible refine zK (N:=2) rfl ?_);refine zI ?hg (N:=2) ?hd (cs:=#[.int .i64 a0_0,.string a0_1,.int .i64 a0_2,.int .i64 a0_3,.string a0_4]) (t:=44) ?hr ?_;(case hd => rfl);(case hg => rfl);(case hr => first|(go_simp;done)|(go_simp;rfl));intro gb398 hg w11 hbox hb;have BK398:=zh (hbox);have GW398:=zh ((by rw [hg];exact (zB (by repeat (with_reducible first|exact HB.out|apply za|apply zb|apply zc))) : w.heap.size≤gb398));have GE398:=zh ((by rw [hg];exact (zB (by repeat (with_reducible first|exact HB.out|apply za|apply zb|apply zc))) : w.heap.size≤gb398));replace HB:=zh (zC (by repeat (with_reducible first|exact HB.out|apply za|apply zb|apply zc)) hb);clear hb hbox hg;have hcz12_0 : w11.cell? ⟨gb398,0,none⟩=some (.int .i64 a0_0):=(zz BK398.out 0).trans rfl;have hcz12_1 : w11.cell? ⟨gb398,1,none⟩=some (.string a0_1):=(zz BK398.out 1).trans rfl;have hcz12_2 : w11.cell? ⟨gb398,2,none⟩=some (.int .i64 a0_2):=(zz BK398.out 2).trans rfl;have hcz12_3 : w11.cell? ⟨gb398,3,none⟩=some (.int .i64 a0_3):=(zz BK398.out 3).trans rfl;have hcz12_4 : w11.cell? ⟨gb398,4,none⟩=some (.string a0_4):=(zz BK398.out 4).trans rfl;have hfz12_0:=zA BK398.out 0;have hfz12_1:=zA BK398.out 1;have hfz12_2:=zA BK398.out 2;have hfz12_3:=zA BK398.out 3;have hfz12_4:=zA BK398.out 4)|((with_reducible refine zJ (f:=20) rfl ?_);refine yj (some 15) rfl rfl Tryd.func20 (by kernel_rfl) rfl #[.agg #[.int .i64 a0_2,.int .i64 a0_3,.string a0_4],.int .i64 (wrap64 (a1 - (a0_1.size : Int)))] rfl (by (try simp only [zt,zu,zv]);first|done|rfl|(simp only [zw,zx];rfl)|(simp only [yr,ys,zV,zW];rfl)) ?_;(with_reducible refine (laws_szValue.calls  a0_2 a0_3 a0_4 (wrap64 (a1 - (a0_1.size : Int))) t399 _ A6.out).mono ?_);rintro e w13 ⟨rfl,hb⟩;refine ⟨_,rfl,?_⟩;replace BK398:=zh (zD (g:=gb398) (o:=.cells #[.int .i64 a0_0,.string a0_1,.int .i64 a0_2,.int .i64 a0_3,.string a0_4] 44 (0,0)) (by (with_reducible repeat (first|refine ze ?_ _|refine zf ?_|refine zg ?_ _));exact BK398.out) hb);replace HB:=zh (zC (by repeat (with_reducible first|exact HB.out|apply za|apply zb|apply zc|refine zd ?_ GE398.out)) hb);(try clear hb);(try clear hb2);(try clear hk);(try clear hi)))
 go_ret
 exact ⟨by first|rfl|(simp [yt,yu] <;> rfl)|(simp [*,yt,yu] <;> rfl),by repeat (with_reducible first|exact HB.out|apply za|apply zb|apply zc|refine zd ?_ GE398.out)⟩

end Go.Proofs.YthjgfjlogilleaaDoor.Q
end
section
namespace Go.Proofs.YthjgfjlogilleaaDoor.Q
open Go.RowKit Go.Proofs.YthjgfjlogilleaaDoorW.PrintWords Go.Proofs.YthjgfjlogilleaaDoorW.PrintLast Go.Proofs.YthjgfjlogilleaaDoorW.PrintMore
attribute [local go_sem] max2_int min2_int max_two min_two max_three min_three max_four min_four max2_str min2_str str_geq str_gtr str_leq   -- for this text's walks alone
set_option linter.unusedVariables false
set_option linter.unusedSimpArgs false

def spec_l01In.f (a0 : Int) (a1 : Int) (a2 : Int) : Option (Bool):=if a1≤a0 then (some (decide (a0≤a2))) else (some false)
set_option maxHeartbeats 8000000 in
set_option maxRecDepth 100000 in
theorem spec_l01In.calls (a0 : Int) (a1 : Int) (a2 : Int) (r : Bool) (w : World) (h : spec_l01In.f a0 a1 a2=some r) :
  Calls Tryd.prog 29 #[.int .i64 a0,.int .i64 a1,.int .i64 a2] w fun e w' => e = .returned (.bool r)∧Drawn0 w w':=by
 have H : (if a1≤a0 then (some (decide (a0≤a2))) else (some false))=some r:=h;clear h
 by_cases c4 : a1≤a0
 ·
  rw [if_pos c4] at H
  have c4b0 : decide (a1≤a0)=true:=decide_eq_true c4;clear c4;obtain rfl:=zU H
  go_enter Tryd.func29,Tryd.ntmps29
  go_wp2
  go_ret
  exact ⟨by first|rfl|(simp;done)|(simp [*];done),by repeat (first|exact yp _|apply yq)⟩
 rw [if_neg c4] at H;have c4b0 : decide (a1≤a0)=false:=decide_eq_false c4;clear c4;obtain rfl:=zU H
 go_enter Tryd.func29,Tryd.ntmps29
 go_wp2
 go_ret
 exact ⟨by first|rfl|(simp;done)|(simp [*];done),by repeat (first|exact yp _|apply yq)⟩

end Go.Proofs.YthjgfjlogilleaaDoor.Q
end
section
namespace Go.Proofs.YthjgfjlogilleaaDoor.Q
open Go.RowKit Go.Proofs.YthjgfjlogilleaaDoorW.PrintWords Go.Proofs.YthjgfjlogilleaaDoorW.PrintLast Go.Proofs.YthjgfjlogilleaaDoorW.PrintMore
attribute [local go_sem] max2_int min2_int max_two min_two max_three min_three max_four min_four max2_str min2_str str_geq str_gtr str_leq   -- for this text's walks alone
set_option linter.unusedVariables false
set_option linter.unusedSimpArgs false

def spec_l00Letter.f (a0 : Int) : Option (Bool):=if a0 ≥ 97 then (if a0≤122 then (some true) else (if a0 ≥ 65 then (if a0≤90 then (some true) else (some (a0 == 95))) else (some (a0 == 95)))) else (if a0 ≥ 65 then (if a0≤90 then (some true) else (some (a0 == 95))) else (some (a0 == 95)))
set_option maxHeartbeats 8000000 in
set_option maxRecDepth 100000 in
theorem spec_l00Letter.calls (a0 : Int) (r : Bool) (w : World) (h : spec_l00Letter.f a0=some r) :
  Calls Tryd.prog 78 #[.int .u8 a0] w fun e w' => e = .returned (.bool r)∧Drawn0 w w':=by
 have H : (if a0 ≥ 97 then (if a0≤122 then (some true) else (if a0 ≥ 65 then (if a0≤90 then (some true) else (some (a0 == 95))) else (some (a0 == 95)))) else (if a0 ≥ 65 then (if a0≤90 then (some true) else (some (a0 == 95))) else (some (a0 == 95))))=some r:=h;clear h
 by_cases c2 : a0 ≥ 97
 ·
  rw [if_pos c2] at H
  have c2b0 : decide (97≤a0)=true:=decide_eq_true c2;clear c2
  by_cases c3 : a0≤122
  ·
   rw [if_pos c3] at H
   have c3b0 : decide (a0≤122)=true:=decide_eq_true c3;clear c3;obtain rfl:=zU H
   go_enter Tryd.func78,Tryd.ntmps78
   go_wp2
   go_ret
   exact ⟨by first|rfl|(simp;done)|(simp [*];done),by repeat (first|exact yp _|apply yq)⟩
  rw [if_neg c3] at H;have c3b0 : decide (a0≤122)=false:=decide_eq_false c3;clear c3
  by_cases c4 : a0 ≥ 65
  ·
   rw [if_pos c4] at H
   have c4b0 : decide (65≤a0)=true:=decide_eq_true c4;clear c4
   by_cases c5 : a0≤90
   ·
    rw [if_pos c5] at H
    have c5b0 : decide (a0≤90)=true:=decide_eq_true c5;clear c5;obtain rfl:=zU H
    go_enter Tryd.func78,Tryd.ntmps78
    go_wp2
    go_ret
    exact ⟨by first|rfl|(simp;done)|(simp [*];done),by repeat (first|exact yp _|apply yq)⟩
   rw [if_neg c5] at H;have c5b0 : decide (a0≤90)=false:=decide_eq_false c5;clear c5;obtain rfl:=zU H
   go_enter Tryd.func78,Tryd.ntmps78
   go_wp2
   go_ret
   exact ⟨by first|rfl|(simp;done)|(simp [*];done),by repeat (first|exact yp _|apply yq)⟩
  rw [if_neg c4] at H;have c4b0 : decide (65≤a0)=false:=decide_eq_false c4;clear c4;obtain rfl:=zU H
  go_enter Tryd.func78,Tryd.ntmps78
  go_wp2
  go_ret
  exact ⟨by first|rfl|(simp;done)|(simp [*];done),by repeat (first|exact yp _|apply yq)⟩
 rw [if_neg c2] at H;have c2b0 : decide (97≤a0)=false:=decide_eq_false c2;clear c2
 by_cases c6 : a0 ≥ 65
 ·
  rw [if_pos c6] at H
  have c6b0 : decide (65≤a0)=true:=decide_eq_true c6;clear c6
  by_cases c7 : a0≤90
  ·
   rw [if_pos c7] at H
   have c7b0 : decide (a0≤90)=true:=decide_eq_true c7;clear c7;obtain rfl:=zU H
   go_enter Tryd.func78,Tryd.ntmps78
   go_wp2
   go_ret
   exact ⟨by first|rfl|(simp;done)|(simp [*];done),by repeat (first|exact yp _|apply yq)⟩
  rw [if_neg c7] at H;have c7b0 : decide (a0≤90)=false:=decide_eq_false c7;clear c7;obtain rfl:=zU H
  go_enter Tryd.func78,Tryd.ntmps78
  go_wp2
  go_ret
  exact ⟨by first|rfl|(simp;done)|(simp [*];done),by repeat (first|exact yp _|apply yq)⟩
 rw [if_neg c6] at H;have c6b0 : decide (65≤a0)=false:=decide_eq_false c6;clear c6;obtain rfl:=zU H
 go_enter Tryd.func78,Tryd.ntmps78
 go_wp2
 go_ret
 exact ⟨by first|rfl|(simp;done)|(simp [*];done),by repeat (first|exact yp _|apply yq)⟩

end Go.Proofs.YthjgfjlogilleaaDoor.Q
end
section
namespace Go.Proofs.YthjgfjlogilleaaDoor.Q
open Go.RowKit Go.Proofs.YthjgfjlogilleaaDoorW.PrintWords Go.Proofs.YthjgfjlogilleaaDoorW.PrintLast Go.Proofs.YthjgfjlogilleaaDoorW.PrintMore
attribute [local go_sem] max2_int min2_int max_two min_two max_three min_three max_four min_four max2_str min2_str str_geq str_gtr str_leq   -- for this text's walks alone
set_option linter.unusedVariables false
set_option linter.unusedSimpArgs false

def spec_l00Digit.f (a0 : Int) : Option (Bool):=if a0 ≥ 48 then (some (decide (a0≤57))) else (some false)
set_option maxHeartbeats 8000000 in
set_option maxRecDepth 100000 in
theorem spec_l00Digit.calls (a0 : Int) (r : Bool) (w : World) (h : spec_l00Digit.f a0=some r) :
  Calls Tryd.prog 79 #[.int .u8 a0] w fun e w' => e = .returned (.bool r)∧Drawn0 w w':=by
 have H : (if a0 ≥ 48 then (some (decide (a0≤57))) else (some false))=some r:=h;clear h
 by_cases c2 : a0 ≥ 48
 ·
  rw [if_pos c2] at H
  have c2b0 : decide (48≤a0)=true:=decide_eq_true c2;clear c2;obtain rfl:=zU H
  go_enter Tryd.func79,Tryd.ntmps79
  go_wp2
  go_ret
  exact ⟨by first|rfl|(simp;done)|(simp [*];done),by repeat (first|exact yp _|apply yq)⟩
 rw [if_neg c2] at H;have c2b0 : decide (48≤a0)=false:=decide_eq_false c2;clear c2;obtain rfl:=zU H
 go_enter Tryd.func79,Tryd.ntmps79
 go_wp2
 go_ret
 exact ⟨by first|rfl|(simp;done)|(simp [*];done),by repeat (first|exact yp _|apply yq)⟩

end Go.Proofs.YthjgfjlogilleaaDoor.Q
end
section
namespace Go.Proofs.YthjgfjlogilleaaDoor.Q
open Go.RowKit Go.Proofs.YthjgfjlogilleaaDoorW.PrintWords Go.Proofs.YthjgfjlogilleaaDoorW.PrintLast Go.Proofs.YthjgfjlogilleaaDoorW.PrintMore
attribute [local go_sem] max2_int min2_int max_two min_two max_three min_three max_four min_four max2_str min2_str str_geq str_gtr str_leq   -- for this text's walks alone
set_option linter.unusedVariables false
set_option linter.unusedSimpArgs false

mutual
def spec_l00Word.j0 : Nat→ByteArray→Bool→Option (Bool)
 | 0,_,_ => none
 | k + 1,x0,x17 => if x17=true then (some false) else (spec_l00Word.l0 k x0 1)
def spec_l00Word.l0 : Nat→ByteArray→Int→Option (Bool)
 | 0,_,_ => none
 | k + 1,x0,x3 => if x3<(x0.size : Int) then (if 0≤x3 then ((spec_l00Letter.f (bt x0 x3)).bind fun t107 => (if t107=true then (spec_l00Word.l0 k x0 (wrap64 (x3 + 1))) else ((spec_l00Digit.f (bt x0 x3)).bind fun t108 => (if t108=true then (spec_l00Word.l0 k x0 (wrap64 (x3 + 1))) else (some false))))) else (none)) else (some true)
end
def spec_l00Word.f (k : Nat) (a0 : ByteArray) : Option (Bool):=if (a0.size : Int)<1 then (spec_l00Word.j0 k a0 true) else (if (a0.size : Int) > 40 then (spec_l00Word.j0 k a0 true) else (if 0<(a0.size : Int) then ((spec_l00Letter.f (bt a0 0)).bind fun t106 => (spec_l00Word.j0 k a0 (!t106))) else (none)))
theorem spec_l00Word.mono_l : ∀ k,(∀ y0 y1,LeO (spec_l00Word.j0 k y0 y1) (spec_l00Word.j0 (k + 1) y0 y1))∧(∀ y0 y1,LeO (spec_l00Word.l0 k y0 y1) (spec_l00Word.l0 (k + 1) y0 y1))
 | 0 => ⟨fun _ _ r h => by simp [spec_l00Word.j0] at h,fun _ _ r h => by simp [spec_l00Word.l0] at h⟩
 | k + 1 => by
  obtain ⟨ih0,ih1⟩:=spec_l00Word.mono_l k;refine ⟨?_,?_⟩
  ·
   intro y0 y1
   unfold spec_l00Word.j0
   repeat' first|(with_reducible exact ih0 _ _)|(with_reducible exact ih1 _ _)|(with_reducible exact zQ _)|(with_reducible exact zN _)|(with_reducible refine zP ?_ ?_)|(with_reducible refine zO ?_ (fun _ => ?_))|refine zP ?_ ?_|refine zO ?_ (fun _ => ?_)
  intro y0 y1;unfold spec_l00Word.l0
  repeat' first|(with_reducible exact ih0 _ _)|(with_reducible exact ih1 _ _)|(with_reducible exact zQ _)|(with_reducible exact zN _)|(with_reducible refine zP ?_ ?_)|(with_reducible refine zO ?_ (fun _ => ?_))|refine zP ?_ ?_|refine zO ?_ (fun _ => ?_)
theorem spec_l00Word.mono : ∀ a0 k,LeO (spec_l00Word.f k a0) (spec_l00Word.f (k + 1) a0):=by
 intro a0 k;obtain ⟨ih0,ih1⟩:=spec_l00Word.mono_l k;unfold spec_l00Word.f
 repeat' first|(with_reducible exact ih0 _ _)|(with_reducible exact ih1 _ _)|(with_reducible exact zQ _)|(with_reducible exact zN _)|(with_reducible refine zP ?_ ?_)|(with_reducible refine zO ?_ (fun _ => ?_))|refine zP ?_ ?_|refine zO ?_ (fun _ => ?_)
set_option maxHeartbeats 8000000 in
set_option maxRecDepth 100000 in
theorem spec_l00Word.calls (k : Nat) (a0 : ByteArray) (r : Bool) (w : World) (h : spec_l00Word.f k a0=some r) :
  Calls Tryd.prog 63 #[.string a0] w fun e w' => e = .returned (.bool r)∧Drawn0 w w':=by
 have H : (if (a0.size : Int)<1 then (spec_l00Word.j0 k a0 true) else (if (a0.size : Int) > 40 then (spec_l00Word.j0 k a0 true) else (if 0<(a0.size : Int) then ((spec_l00Letter.f (bt a0 0)).bind fun t106 => (spec_l00Word.j0 k a0 (!t106))) else (none))))=some r:=h;clear h;have HC2:=zh H;clear H
 go_enter Tryd.func63,Tryd.ntmps63
 go_upto_region 1 with (fail)
 go_cut [17] (fun v17 wc => ∃ (kq : Nat) (x17_1 : Bool),v17 = .bool x17_1∧Aside0 (spec_l00Word.j0 kq a0 x17_1=some r)∧Aside0 (kq≤k)∧Drawn0 w wc)
 case first =>
  have H:=HC2.out;clear HC2
  by_cases c3 : (a0.size : Int)<1
  ·
   rw [if_pos c3] at H
   have c3b0 : decide ((a0.size : Int)<1)=true:=decide_eq_true c3;have c3b1 : decide (a0.size<1)=true:=decide_eq_true (by omega);clear c3;(first|rw [c3b0]|(simp only [zG,zH];rw [c3b0])|skip);have H':=zh H;clear H
   go_wp2
   go_meet
   case rel => exact ⟨_,(true),(by first|rfl|(simp;done)|(simp [*];done)),H',⟨by first|omega|exact ye _⟩,by repeat (first|exact yp _|apply yq)⟩
  rw [if_neg c3] at H;have c3b0 : decide ((a0.size : Int)<1)=false:=decide_eq_false c3;have c3b1 : decide (a0.size<1)=false:=decide_eq_false (by omega);clear c3;(first|rw [c3b0]|(simp only [zG,zH];rw [c3b0])|skip)
  by_cases c4 : (a0.size : Int) > 40
  ·
   rw [if_pos c4] at H
   have c4b0 : decide (40<(a0.size : Int))=true:=decide_eq_true c4;have c4b1 : decide (40<a0.size)=true:=decide_eq_true (by omega);clear c4;have H':=zh H;clear H
   go_wp2
   go_meet
   case rel => exact ⟨_,(true),(by first|rfl|(simp;done)|(simp [*];done)),H',⟨by first|omega|exact ye _⟩,by repeat (first|exact yp _|apply yq)⟩
  rw [if_neg c4] at H;have c4b0 : decide (40<(a0.size : Int))=false:=decide_eq_false c4;have c4b1 : decide (40<a0.size)=false:=decide_eq_false (by omega);clear c4
  by_cases c5 : 0<(a0.size : Int)
  ·
   rw [if_pos c5] at H
   have c5b0 : decide (0<(a0.size : Int))=true:=decide_eq_true c5;have c5b1 : decide (0<a0.size)=true:=decide_eq_true (by omega);clear c5;replace H:=zT.mp H;obtain ⟨t106,A70,H⟩:=H;replace H : (spec_l00Word.j0 k a0 (!t106))=some r:=H;have A7:=zh A70;clear A70;have H':=zh H;clear H;have p6 : 0≤(0 : Int):=(by omega);have q6 : 0<a0.size:=(by have : (0 : Int)<(a0.size : Int):=zy (by first|(with_reducible assumption)|assumption);omega);have hx6 : ∀ h : 0<a0.size,((a0[0]'h).toNat : Int)=bt a0 0:=bt_at a0 0;clear p6;have qi6 : (0<(a0.size : Int))=True:=eq_true (zy (by first|(with_reducible assumption)|assumption));replace q6:=eq_true q6
   go_wp2_with (first|(go_at_call 78;(with_reducible refine (spec_l00Letter.calls  (bt a0 0) t106 _ A7.out).mono ?_);rintro e w' ⟨rfl,⟨nd,rfl⟩⟩))
   go_meet
   case rel => exact ⟨_,(!t106),(by first|rfl|(simp;done)|(simp [*];done)),H',⟨by first|omega|exact ye _⟩,by repeat (first|exact yp _|apply yq)⟩
  rw [if_neg c5] at H;exact absurd H (by simp)
 case rest =>
  clear HC2
  try clear p2
  try clear c3
  try clear c3b0
  try clear c3b1
  try clear c4
  try clear c4b0
  try clear c4b1
  try clear c5
  try clear c5b0
  try clear c5b1
  try clear c6
  try clear p6
  try clear q6
  try clear hx6
  try clear qi6
  try clear p6
  try clear q6
  obtain ⟨kq,x17_1,rfl,HA,HJ1,⟨mc1,rfl⟩⟩:=hcut
  cases kq with
  | zero => exact absurd HA.out (by simp [spec_l00Word.j0])
  | succ kj1 =>
   have H:=HA.out;clear HA;simp only [spec_l00Word.j0] at H
   by_cases c8 : x17_1=true
   ·
    subst c8
    have H1 : (some false)=some r:=by rw [if_pos rfl] at H;exact H
    clear H;have H:=H1;clear H1;obtain rfl:=zU H
    go_wp2
    go_ret
    exact ⟨by first|rfl|(simp;done)|(simp [*];done),by repeat (first|exact yp _|apply yq)⟩
   replace c8:=yb.mpr c8;subst c8;have H1 : (spec_l00Word.l0 kj1 a0 1)=some r:=by rw [if_neg (show ¬ (false=true) by decide)] at H;exact H
   clear H;have H:=H1;clear H1;have H':=zh H;clear H
   go_wp2
   go_loopg [3] kj1 (fun kq v3 w' => ∃ (x3_2 : Int),v3 = .int .i64 x3_2∧Aside0 (spec_l00Word.l0 kq a0 x3_2=some r)∧Aside0 (kq≤kj1)∧Drawn0 w w')
   case atStart => exact ⟨(1),(by first|rfl|(simp;done)|(simp [*];done)),H',⟨ye _⟩,by repeat (first|exact yp _|apply yq)⟩
   case round =>
    clear H'
    try clear c1
    try clear p2
    try clear c3
    try clear c3b0
    try clear c3b1
    try clear c4
    try clear c4b0
    try clear c4b1
    try clear c5
    try clear c5b0
    try clear c5b1
    try clear c6
    try clear p6
    try clear q6
    try clear hx6
    try clear qi6
    try clear c8
    try clear p2
    try clear p6
    try clear q6
    obtain ⟨x3_2,rfl,HA,HK2,⟨m2,rfl⟩⟩:=hrel
    cases gk with
    | zero => exact absurd HA.out (by simp [spec_l00Word.l0])
    | succ k2 =>
     have H:=HA.out;clear HA;simp only [spec_l00Word.l0] at H
     by_cases c9 : x3_2<(a0.size : Int)
     ·
      rw [if_pos c9] at H
      have c9b0 : decide (x3_2<(a0.size : Int))=true:=decide_eq_true c9;clear c9
      by_cases c10 : 0≤x3_2
      ·
       rw [if_pos c10] at H
       have c10b0 : decide (0≤x3_2)=true:=decide_eq_true c10;clear c10;replace H:=zT.mp H;obtain ⟨t107,A120,H⟩:=H;replace H : (if t107=true then (spec_l00Word.l0 k2 a0 (wrap64 (x3_2 + 1))) else ((spec_l00Digit.f (bt a0 x3_2)).bind fun t108 => (if t108=true then (spec_l00Word.l0 k2 a0 (wrap64 (x3_2 + 1))) else (some false))))=some r:=H;have A12:=zh A120;clear A120
       by_cases c13 : t107=true
       ·
        subst c13
        have H1 : (spec_l00Word.l0 k2 a0 (wrap64 (x3_2 + 1)))=some r:=by rw [if_pos rfl] at H;exact H
        clear H;have H:=H1;clear H1;have H':=zh H;clear H;have p11 : 0≤(x3_2 : Int):=zy (by first|(with_reducible assumption)|assumption);have q11 : x3_2<(a0.size : Int):=zy (by first|(with_reducible assumption)|assumption);have hx11:=bt_at a0 x3_2;replace p11:=eq_true p11;replace q11:=eq_true q11
        go_wp2_with (first|((with_reducible refine zJ (f:=78) rfl ?_);refine yj (some 27) rfl rfl Tryd.func78 (by kernel_rfl) rfl #[.int .u8 (bt a0 x3_2)] rfl (by (try simp only [zt,zu,zv]);first|done|rfl|(simp only [zw,zx];rfl)|(simp only [yr,ys,zV,zW];rfl)) ?_;(with_reducible refine (spec_l00Letter.calls  (bt a0 x3_2) true _ A12.out).mono ?_);rintro e w' ⟨rfl,⟨nd,rfl⟩⟩;refine ⟨_,rfl,?_⟩))
        go_roundg k2
        case measure => have:=HJ1.out;have:=HK2.out;omega
        case rel => exact ⟨(wrap64 (x3_2 + 1)),(by first|rfl|(simp;done)|(simp [*];done)),H',⟨by have:=HJ1.out;have:=HK2.out;omega⟩,by repeat (first|exact yp _|apply yq)⟩
       replace c13:=yb.mpr c13;subst c13;have H1 : ((spec_l00Digit.f (bt a0 x3_2)).bind fun t108 => (if t108=true then (spec_l00Word.l0 k2 a0 (wrap64 (x3_2 + 1))) else (some false)))=some r:=by rw [if_neg (show ¬ (false=true) by decide)] at H;exact H
       clear H;have H:=H1;clear H1;replace H:=zT.mp H;obtain ⟨t108,A150,H⟩:=H;replace H : (if t108=true then (spec_l00Word.l0 k2 a0 (wrap64 (x3_2 + 1))) else (some false))=some r:=H;have A15:=zh A150;clear A150
       by_cases c16 : t108=true
       ·
        subst c16
        have H1 : (spec_l00Word.l0 k2 a0 (wrap64 (x3_2 + 1)))=some r:=by rw [if_pos rfl] at H;exact H
        clear H;have H:=H1;clear H1;have H':=zh H;clear H;have p11 : 0≤(x3_2 : Int):=zy (by first|(with_reducible assumption)|assumption);have q11 : x3_2<(a0.size : Int):=zy (by first|(with_reducible assumption)|assumption);have hx11:=bt_at a0 x3_2;replace p11:=eq_true p11;replace q11:=eq_true q11
        go_wp2_with (first|((with_reducible refine zJ (f:=78) rfl ?_);refine yj (some 27) rfl rfl Tryd.func78 (by kernel_rfl) rfl #[.int .u8 (bt a0 x3_2)] rfl (by (try simp only [zt,zu,zv]);first|done|rfl|(simp only [zw,zx];rfl)|(simp only [yr,ys,zV,zW];rfl)) ?_;(with_reducible refine (spec_l00Letter.calls  (bt a0 x3_2) false _ A12.out).mono ?_);rintro e w' ⟨rfl,⟨nd,rfl⟩⟩;refine ⟨_,rfl,?_⟩;have p14 : 0≤(x3_2 : Int):=zy (by first|(with_reducible assumption)|assumption);have q14 : x3_2<(a0.size : Int):=zy (by first|(with_reducible assumption)|assumption);have hx14:=bt_at a0 x3_2;replace p14:=eq_true p14;replace q14:=eq_true q14)|(go_at_call 79;(with_reducible refine (spec_l00Digit.calls  (bt a0 x3_2) true _ A15.out).mono ?_);rintro e w' ⟨rfl,⟨nd,rfl⟩⟩))
        go_roundg k2
        case measure => have:=HJ1.out;have:=HK2.out;omega
        case rel => exact ⟨(wrap64 (x3_2 + 1)),(by first|rfl|(simp;done)|(simp [*];done)),H',⟨by have:=HJ1.out;have:=HK2.out;omega⟩,by repeat (first|exact yp _|apply yq)⟩
       replace c16:=yb.mpr c16;subst c16;have H1 : (some false)=some r:=by rw [if_neg (show ¬ (false=true) by decide)] at H;exact H
       clear H;have H:=H1;clear H1;obtain rfl:=zU H;have p11 : 0≤(x3_2 : Int):=zy (by first|(with_reducible assumption)|assumption);have q11 : x3_2<(a0.size : Int):=zy (by first|(with_reducible assumption)|assumption);have hx11:=bt_at a0 x3_2;replace p11:=eq_true p11;replace q11:=eq_true q11
       go_wp2_with (first|((with_reducible refine zJ (f:=78) rfl ?_);refine yj (some 27) rfl rfl Tryd.func78 (by kernel_rfl) rfl #[.int .u8 (bt a0 x3_2)] rfl (by (try simp only [zt,zu,zv]);first|done|rfl|(simp only [zw,zx];rfl)|(simp only [yr,ys,zV,zW];rfl)) ?_;(with_reducible refine (spec_l00Letter.calls  (bt a0 x3_2) false _ A12.out).mono ?_);rintro e w' ⟨rfl,⟨nd,rfl⟩⟩;refine ⟨_,rfl,?_⟩;have p14 : 0≤(x3_2 : Int):=zy (by first|(with_reducible assumption)|assumption);have q14 : x3_2<(a0.size : Int):=zy (by first|(with_reducible assumption)|assumption);have hx14:=bt_at a0 x3_2;replace p14:=eq_true p14;replace q14:=eq_true q14)|(go_at_call 79;(with_reducible refine (spec_l00Digit.calls  (bt a0 x3_2) false _ A15.out).mono ?_);rintro e w' ⟨rfl,⟨nd,rfl⟩⟩))
       go_ret
       exact ⟨by first|rfl|(simp;done)|(simp [*];done),by repeat (first|exact yp _|apply yq)⟩
      rw [if_neg c10] at H;exact absurd H (by simp)
     rw [if_neg c9] at H;have c9b0 : decide (x3_2<(a0.size : Int))=false:=decide_eq_false c9;clear c9;obtain rfl:=zU H
     go_wp2
     go_ret
     exact ⟨by first|rfl|(simp;done)|(simp [*];done),by repeat (first|exact yp _|apply yq)⟩

end Go.Proofs.YthjgfjlogilleaaDoor.Q
end
section
namespace Go.Proofs.YthjgfjlogilleaaDoor.Q
open Go.RowKit Go.Proofs.YthjgfjlogilleaaDoorW.PrintWords Go.Proofs.YthjgfjlogilleaaDoorW.PrintLast Go.Proofs.YthjgfjlogilleaaDoorW.PrintMore
attribute [local go_sem] max2_int min2_int max_two min_two max_three min_three max_four min_four max2_str min2_str str_geq str_gtr str_leq   -- for this text's walks alone
set_option linter.unusedVariables false
set_option linter.unusedSimpArgs false

def spec_NameOK.f (k : Nat) (a0 : ByteArray) : Option (Bool):=(spec_l00Word.f k a0).bind fun t109 => (some t109)
theorem spec_NameOK.mono : ∀ a0 k,LeO (spec_NameOK.f k a0) (spec_NameOK.f (k + 1) a0):=by
 intro a0 k;unfold spec_NameOK.f
 repeat' first|(with_reducible exact spec_l00Word.mono _ _)|(with_reducible exact zQ _)|(with_reducible exact zN _)|(with_reducible refine zP ?_ ?_)|(with_reducible refine zO ?_ (fun _ => ?_))|refine zP ?_ ?_|refine zO ?_ (fun _ => ?_)
set_option maxHeartbeats 8000000 in
set_option maxRecDepth 100000 in
theorem spec_NameOK.calls (k : Nat) (a0 : ByteArray) (r : Bool) (w : World) (h : spec_NameOK.f k a0=some r) :
  Calls Tryd.prog 48 #[.string a0] w fun e w' => e = .returned (.bool r)∧Drawn0 w w':=by
 have H : ((spec_l00Word.f k a0).bind fun t109 => (some t109))=some r:=h;clear h;replace H:=zT.mp H;obtain ⟨t109,A20,H⟩:=H;replace H : (some t109)=some r:=H;have A2:=zh A20;clear A20;obtain rfl:=zU H
 go_enter Tryd.func48,Tryd.ntmps48
 go_wp2_with (first|((with_reducible refine zJ (f:=63) rfl ?_);refine yj (some 4) rfl rfl Tryd.func63 (by kernel_rfl) rfl #[.string a0] rfl (by (try simp only [zt,zu,zv]);first|done|rfl|(simp only [zw,zx];rfl)|(simp only [yr,ys,zV,zW];rfl)) ?_;(with_reducible refine (spec_l00Word.calls k  a0 t109 _ A2.out).mono ?_);rintro e w' ⟨rfl,⟨nd,rfl⟩⟩;refine ⟨_,rfl,?_⟩))
 go_ret
 exact ⟨by first|rfl|(simp;done)|(simp [*];done),by repeat (first|exact yp _|apply yq)⟩

end Go.Proofs.YthjgfjlogilleaaDoor.Q
end
section
namespace Go.Proofs.YthjgfjlogilleaaDoor.Q
open Go.RowKit Go.Proofs.YthjgfjlogilleaaDoorW.PrintWords Go.Proofs.YthjgfjlogilleaaDoorW.PrintLast Go.Proofs.YthjgfjlogilleaaDoorW.PrintMore
attribute [local go_sem] max2_int min2_int max_two min_two max_three min_three max_four min_four max2_str min2_str str_geq str_gtr str_leq   -- for this text's walks alone
set_option linter.unusedVariables false
set_option linter.unusedSimpArgs false

def spec_l01Name.f (k : Nat) (a0 : ByteArray) : Option (Bool):=(spec_NameOK.f k a0).bind fun t110 => (if t110=true then (some (decide ((a0.size : Int)≤12))) else (some false))
theorem spec_l01Name.mono : ∀ a0 k,LeO (spec_l01Name.f k a0) (spec_l01Name.f (k + 1) a0):=by
 intro a0 k;unfold spec_l01Name.f
 repeat' first|(with_reducible exact spec_NameOK.mono _ _)|(with_reducible exact zQ _)|(with_reducible exact zN _)|(with_reducible refine zP ?_ ?_)|(with_reducible refine zO ?_ (fun _ => ?_))|refine zP ?_ ?_|refine zO ?_ (fun _ => ?_)
set_option maxHeartbeats 8000000 in
set_option maxRecDepth 100000 in
theorem spec_l01Name.calls (k : Nat) (a0 : ByteArray) (r : Bool) (w : World) (h : spec_l01Name.f k a0=some r) :
  Calls Tryd.prog 28 #[.string a0] w fun e w' => e = .returned (.bool r)∧Drawn0 w w':=by
 have H : ((spec_NameOK.f k a0).bind fun t110 => (if t110=true then (some (decide ((a0.size : Int)≤12))) else (some false)))=some r:=h;clear h;replace H:=zT.mp H;obtain ⟨t110,A20,H⟩:=H;replace H : (if t110=true then (some (decide ((a0.size : Int)≤12))) else (some false))=some r:=H;have A2:=zh A20;clear A20
 by_cases c3 : t110=true
 ·
  subst c3
  have H1 : (some (decide ((a0.size : Int)≤12)))=some r:=by rw [if_pos rfl] at H;exact H
  clear H;have H:=H1;clear H1;obtain rfl:=zU H
  go_enter Tryd.func28,Tryd.ntmps28
  go_wp2_with (first|((with_reducible refine zJ (f:=48) rfl ?_);refine yj (some 4) rfl rfl Tryd.func48 (by kernel_rfl) rfl #[.string a0] rfl (by (try simp only [zt,zu,zv]);first|done|rfl|(simp only [zw,zx];rfl)|(simp only [yr,ys,zV,zW];rfl)) ?_;(with_reducible refine (spec_NameOK.calls k  a0 true _ A2.out).mono ?_);rintro e w' ⟨rfl,⟨nd,rfl⟩⟩;refine ⟨_,rfl,?_⟩))
  go_ret
  exact ⟨by first|rfl|(simp;done)|(simp [*];done),by repeat (first|exact yp _|apply yq)⟩
 replace c3:=yb.mpr c3;subst c3;have H1 : (some false)=some r:=by rw [if_neg (show ¬ (false=true) by decide)] at H;exact H
 clear H;have H:=H1;clear H1;obtain rfl:=zU H
 go_enter Tryd.func28,Tryd.ntmps28
 go_wp2_with (first|((with_reducible refine zJ (f:=48) rfl ?_);refine yj (some 4) rfl rfl Tryd.func48 (by kernel_rfl) rfl #[.string a0] rfl (by (try simp only [zt,zu,zv]);first|done|rfl|(simp only [zw,zx];rfl)|(simp only [yr,ys,zV,zW];rfl)) ?_;(with_reducible refine (spec_NameOK.calls k  a0 false _ A2.out).mono ?_);rintro e w' ⟨rfl,⟨nd,rfl⟩⟩;refine ⟨_,rfl,?_⟩))
 go_ret
 exact ⟨by first|rfl|(simp;done)|(simp [*];done),by repeat (first|exact yp _|apply yq)⟩

end Go.Proofs.YthjgfjlogilleaaDoor.Q
end
section
namespace Go.Proofs.YthjgfjlogilleaaDoor.Q
open Go.RowKit Go.Proofs.YthjgfjlogilleaaDoorW.PrintWords Go.Proofs.YthjgfjlogilleaaDoorW.PrintLast Go.Proofs.YthjgfjlogilleaaDoorW.PrintMore
attribute [local go_sem] max2_int min2_int max_two min_two max_three min_three max_four min_four max2_str min2_str str_geq str_gtr str_leq   -- for this text's walks alone
set_option linter.unusedVariables false
set_option linter.unusedSimpArgs false

def spec_l00Cut.l0 : Nat→ByteArray→Int→List ByteArray→Int→Int→Option (List ByteArray)
 | 0,_,_,_,_,_ => none
 | k + 1,x0,x1,x5,x6,x7 => if x7<(x0.size : Int) then (if 0≤x7 then (if (bt x0 x7)=x1 then (if 0≤x6 then (if x6≤x7 then (if x7≤(x0.size : Int) then (if x5.length<8796093022208 then (spec_l00Cut.l0 k x0 x1 (x5 ++ [x0.extract (x6 : Int).toNat (x7 : Int).toNat]) (wrap64 (x7 + 1)) (wrap64 (x7 + 1))) else (none)) else (none)) else (none)) else (none)) else (spec_l00Cut.l0 k x0 x1 x5 x6 (wrap64 (x7 + 1)))) else (none)) else (if 0≤x6 then (if x6≤(x0.size : Int) then (if x5.length<8796093022208 then (some (x5 ++ [x0.extract (x6 : Int).toNat x0.size])) else (none)) else (none)) else (none))
def spec_l00Cut.f (k : Nat) (a0 : ByteArray) (a1 : Int) : Option (List ByteArray):=spec_l00Cut.l0 k a0 a1 (([] : List ByteArray)) 0 0
theorem spec_l00Cut.mono_l : ∀ k,(∀ y0 y1 y2 y3 y4,LeO (spec_l00Cut.l0 k y0 y1 y2 y3 y4) (spec_l00Cut.l0 (k + 1) y0 y1 y2 y3 y4))
 | 0 => fun _ _ _ _ _ r h => by simp [spec_l00Cut.l0] at h
 | k + 1 => by
  have ih0:=spec_l00Cut.mono_l k;intro y0 y1 y2 y3 y4;unfold spec_l00Cut.l0
  repeat' first|(with_reducible exact ih0 _ _ _ _ _)|(with_reducible exact zQ _)|(with_reducible exact zN _)|(with_reducible refine zP ?_ ?_)|(with_reducible refine zO ?_ (fun _ => ?_))|refine zP ?_ ?_|refine zO ?_ (fun _ => ?_)
theorem spec_l00Cut.mono : ∀ a0 a1 k,LeO (spec_l00Cut.f k a0 a1) (spec_l00Cut.f (k + 1) a0 a1):=by
 intro a0 a1 k;have ih0:=spec_l00Cut.mono_l k;unfold spec_l00Cut.f
 repeat' first|(with_reducible exact ih0 _ _ _ _ _)|(with_reducible exact zQ _)|(with_reducible exact zN _)|(with_reducible refine zP ?_ ?_)|(with_reducible refine zO ?_ (fun _ => ?_))|refine zP ?_ ?_|refine zO ?_ (fun _ => ?_)
set_option maxHeartbeats 8000000 in
set_option maxRecDepth 100000 in
theorem spec_l00Cut.calls (k : Nat) (a0 : ByteArray) (a1 : Int) (r : List ByteArray) (w : World) (h : spec_l00Cut.f k a0 a1=some r) :
  Calls Tryd.prog 49 #[.string a0,.int .u8 a1] w fun e w' => ∃ v0_ : Value,e = .returned (v0_)∧Kd.R Kd.string 9 w' w.heap.size (fun _ => True) v0_ r∧Below w.heap.size w w':=by
 have HB:=zh (Below.refl w.heap.size w);have H : (spec_l00Cut.l0 k a0 a1 (([] : List ByteArray)) 0 0)=some r:=h;clear h;obtain ⟨y111,hy111⟩ : ∃ y_ : List ByteArray,y_=(([] : List ByteArray)):=⟨_,rfl⟩;replace H : (spec_l00Cut.l0 k a0 a1 y111 0 0)=some r:=by first|(rw [hy111];with_reducible exact H)|(have H2_:=(Option.bind_some _ _).symm.trans H;rw [hy111];with_reducible exact H2_)|(have H2_:=(Option.bind_some _ _).symm.trans H;with_reducible exact H2_)|with_reducible exact H|(rw [hy111];exact H)|exact H
 have Ny111:=zh hy111;clear hy111;have H':=zh H;clear H
 go_enter Tryd.func49,Tryd.ntmps49
 go_wp2_with (first|((with_reducible refine zK (N:=8) rfl ?_);refine Kd.R_lit Kd.string _ 9 ?hg (N:=8) ?hd (xs:=([] : List ByteArray)) (inner:=[]) (ok:=fun _ => True) (okp:=fun _ => True) ?hr ?hp (fun _ hk => hk) trivial (Below.refl _ _) (ye _) (by simp) ?_;(case hd => rfl);(case hg => rfl);(case hr => first|(go_simp;done)|(go_simp;rfl));(case hp => exact (Reps.none _ _));intro v112 w3 ho4 hb hg_ hnew_;clear hg_ hnew_;(first|rw [← Ny111.out] at ho4|(simp only [Int.reduceToNat] at ho4;rw [← Ny111.out] at ho4));have HO113:=zh (yy ho4 (zB (by repeat (with_reducible first|exact HB.out|apply za|apply zb|apply zc))));replace HB:=zh (zC (by repeat (with_reducible first|exact HB.out|apply za|apply zb|apply zc)) hb);clear hb ho4))
 go_loopg [5,6,7] k (fun kq v5 v6 v7 w' => ∃ (x5_1 : List ByteArray) (x6_1 : Int) (x7_1 : Int),v6 = .int .i64 x6_1∧v7 = .int .i64 x7_1∧Aside0 (spec_l00Cut.l0 kq a0 a1 x5_1 x6_1 x7_1=some r)∧Aside0 (kq≤k)∧Aside0 (Kd.R Kd.string 9 w' w.heap.size (fun _ => True) v5 x5_1)∧Aside0 (Below w.heap.size w w'))
 case atStart => exact ⟨(y111),(0),(0),(by first|rfl|(simp;done)|(simp [*];done)),(by first|rfl|(simp;done)|(simp [*];done)),H',⟨ye _⟩,⟨by (with_reducible repeat (first|apply zm|apply zn|apply zo));exact HO113.out⟩,⟨by repeat (with_reducible first|exact HB.out|apply za|apply zb|apply zc)⟩⟩
 case round =>
  clear H'
  try clear p2
  try clear c4
  obtain ⟨x5_1,x6_1,x7_1,rfl,rfl,HA,HK1,HO_5,HB⟩:=hrel
  cases gk with
  | zero => exact absurd HA.out (by simp [spec_l00Cut.l0])
  | succ k1 =>
   have H:=HA.out;clear HA;simp only [spec_l00Cut.l0] at H
   by_cases c5 : x7_1<(a0.size : Int)
   ·
    rw [if_pos c5] at H
    have c5b0 : decide (x7_1<(a0.size : Int))=true:=decide_eq_true c5;clear c5
    by_cases c6 : 0≤x7_1
    ·
     rw [if_pos c6] at H
     have c6b0 : decide (0≤x7_1)=true:=decide_eq_true c6;clear c6
     by_cases c8 : (bt a0 x7_1)=a1
     ·
      rw [if_pos c8] at H
      have c8b0 : ((bt a0 x7_1) == a1)=true:=ya.mpr c8;have c8b1 : ((bt a0 x7_1) != a1)=false:=zX.mpr c8;clear c8
      by_cases c9 : 0≤x6_1
      ·
       rw [if_pos c9] at H
       have c9b0:=eq_true c9;have c9b1 : decide (0≤x6_1)=true:=decide_eq_true c9;clear c9
       by_cases c10 : x6_1≤x7_1
       ·
        rw [if_pos c10] at H
        have c10b0:=eq_true c10;have c10b1 : decide (x6_1≤x7_1)=true:=decide_eq_true c10;clear c10
        by_cases c11 : x7_1≤(a0.size : Int)
        ·
         rw [if_pos c11] at H
         have c11b0:=eq_true c11;have c11b1 : decide (x7_1≤(a0.size : Int))=true:=decide_eq_true c11;clear c11
         by_cases c12 : x5_1.length<8796093022208
         ·
          rw [if_pos c12] at H
          have LMc12:=zh c12;clear c12;obtain ⟨y114,hy114⟩ : ∃ y_ : List ByteArray,y_=(x5_1 ++ [a0.extract (x6_1 : Int).toNat (x7_1 : Int).toNat]):=⟨_,rfl⟩;replace H : (spec_l00Cut.l0 k1 a0 a1 y114 (wrap64 (x7_1 + 1)) (wrap64 (x7_1 + 1)))=some r:=by first|(rw [hy114];with_reducible exact H)|(have H2_:=(Option.bind_some _ _).symm.trans H;rw [hy114];with_reducible exact H2_)|(have H2_:=(Option.bind_some _ _).symm.trans H;with_reducible exact H2_)|with_reducible exact H|(rw [hy114];exact H)|exact H
          have Ny114:=zh hy114;clear hy114;have H':=zh H;clear H;have p7 : 0≤(x7_1 : Int):=zy (by first|(with_reducible assumption)|assumption);have q7 : x7_1<(a0.size : Int):=zy (by first|(with_reducible assumption)|assumption);have hx7:=bt_at a0 x7_1;replace p7:=eq_true p7;replace q7:=eq_true q7
          go_wp2_with (first|((with_reducible refine yB (b:=.append) (xs:=#[.tmp 20,.tmp 25]) rfl ?_);at_builtin;refine Kd.R_append Kd.string (w0:=w) w.heap.size rfl (.tmp 20) (.tmp 25) 74 9 (.string ⟨#[]⟩) 16 rfl Tryd.underlying74 info9 rfl (by decide) (by omega) u5 x5_1 (a0.extract (x6_1 : Int).toNat (x7_1 : Int).toNat) [.string (a0.extract (x6_1 : Int).toNat (x7_1 : Int).toNat)] (fun _ => True) (fun _ => False) rfl rfl ?aP (fun _ hk => hk.elim) ?aF ?aO ?aB ?aS ?aL ?_;(case aP => exact rfl);(case aB => exact (by repeat (with_reducible first|exact HB.out|apply za|apply zb|apply zc)));(case aF => exact (fun _ _ => trivial));(case aO => exact (by (with_reducible repeat (first|apply zm|apply zn|apply zo));exact HO_5.out));(case aS => exact (zB (by repeat (with_reducible first|exact HB.out|apply za|apply zb|apply zc))));(case aL => have:=LMc12.out;omega);intro v115 w13 ho hb hg hat;rw [← Ny114.out] at ho;replace HB:=zh (hb);have HO116:=zh (ho);clear HO_5 ho hb hg hat))
          go_roundg k1
          case measure => have:=HK1.out;omega
          case rel => exact ⟨(y114),(wrap64 (x7_1 + 1)),(wrap64 (x7_1 + 1)),(by first|rfl|(simp;done)|(simp [*];done)),(by first|rfl|(simp;done)|(simp [*];done)),H',⟨by have:=HK1.out;omega⟩,⟨by (with_reducible repeat (first|apply zm|apply zn|apply zo));exact HO116.out⟩,⟨by repeat (with_reducible first|exact HB.out|apply za|apply zb|apply zc)⟩⟩
         rw [if_neg c12] at H;exact absurd H (by simp)
        rw [if_neg c11] at H;exact absurd H (by simp)
       rw [if_neg c10] at H;exact absurd H (by simp)
      rw [if_neg c9] at H;exact absurd H (by simp)
     rw [if_neg c8] at H;have c8b0 : ((bt a0 x7_1) == a1)=false:=zY.mpr c8;have c8b1 : ((bt a0 x7_1) != a1)=true:=zZ.mpr c8;have H':=zh H;clear H;have p7 : 0≤(x7_1 : Int):=zy (by first|(with_reducible assumption)|assumption);have q7 : x7_1<(a0.size : Int):=zy (by first|(with_reducible assumption)|assumption);have hx7:=bt_at a0 x7_1;replace p7:=eq_true p7;replace q7:=eq_true q7
     go_wp2
     go_roundg k1
     case measure => have:=HK1.out;omega
     case rel => exact ⟨(x5_1),(x6_1),(wrap64 (x7_1 + 1)),(by first|rfl|(simp;done)|(simp [*];done)),(by first|rfl|(simp;done)|(simp [*];done)),H',⟨by have:=HK1.out;omega⟩,⟨by (with_reducible repeat (first|apply zm|apply zn|apply zo));exact HO_5.out⟩,⟨by repeat (with_reducible first|exact HB.out|apply za|apply zb|apply zc)⟩⟩
    rw [if_neg c6] at H;exact absurd H (by simp)
   rw [if_neg c5] at H;have c5b0 : decide (x7_1<(a0.size : Int))=false:=decide_eq_false c5;clear c5
   by_cases c14 : 0≤x6_1
   ·
    rw [if_pos c14] at H
    have c14b0:=eq_true c14;have c14b1 : decide (0≤x6_1)=true:=decide_eq_true c14;clear c14
    by_cases c15 : x6_1≤(a0.size : Int)
    ·
     rw [if_pos c15] at H
     have c15b0:=eq_true c15;have c15b1 : decide (x6_1≤(a0.size : Int))=true:=decide_eq_true c15;clear c15
     by_cases c16 : x5_1.length<8796093022208
     ·
      rw [if_pos c16] at H
      have LMc16:=zh c16;clear c16;obtain ⟨y117,hy117⟩ : ∃ y_ : List ByteArray,y_=(x5_1 ++ [a0.extract (x6_1 : Int).toNat a0.size]):=⟨_,rfl⟩;replace H : (some y117)=some r:=by first|(rw [hy117];with_reducible exact H)|(have H2_:=(Option.bind_some _ _).symm.trans H;rw [hy117];with_reducible exact H2_)|(have H2_:=(Option.bind_some _ _).symm.trans H;with_reducible exact H2_)|with_reducible exact H|(rw [hy117];exact H)|exact H
      have Ny117:=zh hy117;clear hy117;obtain rfl:=zU H
      go_wp2_with (first|((with_reducible refine yB (b:=.append) (xs:=#[.tmp 29,.tmp 33]) rfl ?_);at_builtin;refine Kd.R_append Kd.string (w0:=w) w.heap.size rfl (.tmp 29) (.tmp 33) 74 9 (.string ⟨#[]⟩) 16 rfl Tryd.underlying74 info9 rfl (by decide) (by omega) u5 x5_1 (a0.extract (x6_1 : Int).toNat a0.size) [.string (a0.extract (x6_1 : Int).toNat a0.size)] (fun _ => True) (fun _ => False) rfl rfl ?aP (fun _ hk => hk.elim) ?aF ?aO ?aB ?aS ?aL ?_;(case aP => exact rfl);(case aB => exact (by repeat (with_reducible first|exact HB.out|apply za|apply zb|apply zc)));(case aF => exact (fun _ _ => trivial));(case aO => exact (by (with_reducible repeat (first|apply zm|apply zn|apply zo));exact HO_5.out));(case aS => exact (zB (by repeat (with_reducible first|exact HB.out|apply za|apply zb|apply zc))));(case aL => have:=LMc16.out;omega);intro v118 w17 ho hb hg hat;rw [← Ny117.out] at ho;replace HB:=zh (hb);have HO119:=zh (ho);clear HO_5 ho hb hg hat))
      go_ret
      exact ⟨_,by first|rfl|(simp [yt,yu] <;> rfl)|(simp [*,yt,yu] <;> rfl),by (with_reducible repeat (first|apply zm|apply zn|apply zo));exact HO119.out,by repeat (with_reducible first|exact HB.out|apply za|apply zb|apply zc)⟩
     rw [if_neg c16] at H;exact absurd H (by simp)
    rw [if_neg c15] at H;exact absurd H (by simp)
   rw [if_neg c14] at H;exact absurd H (by simp)

end Go.Proofs.YthjgfjlogilleaaDoor.Q
end
section
namespace Go.Proofs.YthjgfjlogilleaaDoor.Q
open Go.RowKit Go.Proofs.YthjgfjlogilleaaDoorW.PrintWords Go.Proofs.YthjgfjlogilleaaDoorW.PrintLast Go.Proofs.YthjgfjlogilleaaDoorW.PrintMore
attribute [local go_sem] max2_int min2_int max_two min_two max_three min_three max_four min_four max2_str min2_str str_geq str_gtr str_leq   -- for this text's walks alone
set_option linter.unusedVariables false
set_option linter.unusedSimpArgs false

mutual
def spec_PathOK.j0 : Nat→List ByteArray→Bool→Option (Bool)
 | 0,_,_ => none
 | k + 1,x3,x17 => if x17=true then (some false) else (spec_PathOK.l0 k x3 0)
def spec_PathOK.l0 : Nat→List ByteArray→Int→Option (Bool)
 | 0,_,_ => none
 | k + 1,x3,x4 => if x4<(x3.length : Int) then (if 0≤x4 then ((spec_l01Name.f k (rdOf ByteArray.empty x3 x4)).bind fun t124 => (if t124=true then (spec_PathOK.l0 k x3 (wrap64 (x4 + 1))) else (some false))) else (none)) else (some true)
end
def spec_PathOK.f (k : Nat) (a0 : ByteArray) : Option (Bool):=if (a0.size : Int) > 65536 then (some false) else ((spec_l00Cut.f k a0 46).bind fun t120 => (if (t120.length : Int) > 4 then (spec_PathOK.j0 k t120 true) else (spec_PathOK.j0 k t120 (decide ((a0.size : Int) > 50)))))
theorem spec_PathOK.mono_l : ∀ k,(∀ y0 y1,LeO (spec_PathOK.j0 k y0 y1) (spec_PathOK.j0 (k + 1) y0 y1))∧(∀ y0 y1,LeO (spec_PathOK.l0 k y0 y1) (spec_PathOK.l0 (k + 1) y0 y1))
 | 0 => ⟨fun _ _ r h => by simp [spec_PathOK.j0] at h,fun _ _ r h => by simp [spec_PathOK.l0] at h⟩
 | k + 1 => by
  obtain ⟨ih0,ih1⟩:=spec_PathOK.mono_l k;refine ⟨?_,?_⟩
  ·
   intro y0 y1
   unfold spec_PathOK.j0
   repeat' first|(with_reducible exact ih0 _ _)|(with_reducible exact ih1 _ _)|(with_reducible exact spec_l01Name.mono _ _)|(with_reducible exact spec_l00Cut.mono _ _ _)|(with_reducible exact zQ _)|(with_reducible exact zN _)|(with_reducible refine zP ?_ ?_)|(with_reducible refine zO ?_ (fun _ => ?_))|refine zP ?_ ?_|refine zO ?_ (fun _ => ?_)
  intro y0 y1;unfold spec_PathOK.l0
  repeat' first|(with_reducible exact ih0 _ _)|(with_reducible exact ih1 _ _)|(with_reducible exact spec_l01Name.mono _ _)|(with_reducible exact spec_l00Cut.mono _ _ _)|(with_reducible exact zQ _)|(with_reducible exact zN _)|(with_reducible refine zP ?_ ?_)|(with_reducible refine zO ?_ (fun _ => ?_))|refine zP ?_ ?_|refine zO ?_ (fun _ => ?_)
theorem spec_PathOK.mono : ∀ a0 k,LeO (spec_PathOK.f k a0) (spec_PathOK.f (k + 1) a0):=by
 intro a0 k;obtain ⟨ih0,ih1⟩:=spec_PathOK.mono_l k;unfold spec_PathOK.f
 repeat' first|(with_reducible exact ih0 _ _)|(with_reducible exact ih1 _ _)|(with_reducible exact spec_l01Name.mono _ _)|(with_reducible exact spec_l00Cut.mono _ _ _)|(with_reducible exact zQ _)|(with_reducible exact zN _)|(with_reducible refine zP ?_ ?_)|(with_reducible refine zO ?_ (fun _ => ?_))|refine zP ?_ ?_|refine zO ?_ (fun _ => ?_)
set_option maxHeartbeats 8000000 in
set_option maxRecDepth 100000 in
theorem spec_PathOK.calls (k : Nat) (a0 : ByteArray) (r : Bool) (w : World) (h : spec_PathOK.f k a0=some r) :
  Calls Tryd.prog 30 #[.string a0] w fun e w' => e = .returned (.bool r)∧Below w.heap.size w w':=by
 have HB:=zh (Below.refl w.heap.size w);have H : (if (a0.size : Int) > 65536 then (some false) else ((spec_l00Cut.f k a0 46).bind fun t120 => (if (t120.length : Int) > 4 then (spec_PathOK.j0 k t120 true) else (spec_PathOK.j0 k t120 (decide ((a0.size : Int) > 50))))))=some r:=h;clear h
 by_cases c2 : (a0.size : Int) > 65536
 ·
  rw [if_pos c2] at H
  have c2b0 : decide (65536<(a0.size : Int))=true:=decide_eq_true c2;have c2b1 : decide (65536<a0.size)=true:=decide_eq_true (by omega);clear c2;obtain rfl:=zU H
  go_enter Tryd.func30,Tryd.ntmps30
  go_wp2
  go_ret
  exact ⟨by first|rfl|(simp [yt,yu] <;> rfl)|(simp [*,yt,yu] <;> rfl),by repeat (with_reducible first|exact HB.out|apply za|apply zb|apply zc)⟩
 rw [if_neg c2] at H;have c2b0 : decide (65536<(a0.size : Int))=false:=decide_eq_false c2;have c2b1 : decide (65536<a0.size)=false:=decide_eq_false (by omega);clear c2;replace H:=zT.mp H;obtain ⟨t120,A30,H⟩:=H;replace H : (if (t120.length : Int) > 4 then (spec_PathOK.j0 k t120 true) else (spec_PathOK.j0 k t120 (decide ((a0.size : Int) > 50))))=some r:=H;have A3:=zh A30;clear A30;have HC4:=zh H;clear H
 go_enter Tryd.func30,Tryd.ntmps30
 go_upto_region 4 with (first|((with_reducible refine zJ (f:=49) rfl ?_);refine yj (some 9) rfl rfl Tryd.func49 (by kernel_rfl) rfl #[.string a0,.int .u8 46] rfl (by (try simp only [zt,zu,zv]);first|done|rfl|(simp only [zw,zx];rfl)|(simp only [yr,ys,zV,zW];rfl)) ?_;(with_reducible refine (spec_l00Cut.calls k  a0 46 t120 _ A3.out).mono ?_);rintro e w5 ⟨v121,rfl,ho0,hb⟩;refine ⟨_,rfl,?_⟩;have HO122:=zh (yy ho0 (zB (by repeat (with_reducible first|exact HB.out|apply za|apply zb|apply zc))));replace HB:=zh (zC (by repeat (with_reducible first|exact HB.out|apply za|apply zb|apply zc)) hb);(try clear hb);(try clear hb2);(try clear hk);(try clear hi);(try clear ho0)))
 (try simp only [Act.put,zi,zj,zk])
 go_cut [17] (fun v17 wc => ∃ (kq : Nat) (x17_3 : Bool),v17 = .bool x17_3∧Aside0 (spec_PathOK.j0 kq t120 x17_3=some r)∧Aside0 (kq≤k)∧Aside0 (Kd.R Kd.string 9 wc w.heap.size (fun _ => True) v121 t120)∧Aside0 (Below w.heap.size w wc))
 case first =>
  have H:=HC4.out;clear HC4
  by_cases c6 : (t120.length : Int) > 4
  ·
   rw [if_pos c6] at H
   have c6b0 : decide (4<(t120.length : Int))=true:=decide_eq_true c6;have c6b1 : decide (4<t120.length)=true:=decide_eq_true (by omega);clear c6;(first|rw [c6b0]|(simp only [zG,zH];rw [c6b0])|skip);have H':=zh H;clear H;obtain ⟨Ao7,co7,eo7⟩:=yk HO122.out;subst eo7
   go_wp2
   go_meet
   case rel => exact ⟨_,(true),(by first|rfl|(simp;done)|(simp [*];done)),H',⟨by first|omega|exact ye _⟩,⟨by (with_reducible repeat (first|apply zm|apply zn|apply zo));exact HO122.out⟩,⟨by repeat (with_reducible first|exact HB.out|apply za|apply zb|apply zc)⟩⟩
  rw [if_neg c6] at H;have c6b0 : decide (4<(t120.length : Int))=false:=decide_eq_false c6;have c6b1 : decide (4<t120.length)=false:=decide_eq_false (by omega);clear c6;(first|rw [c6b0]|(simp only [zG,zH];rw [c6b0])|skip);have H':=zh H;clear H;obtain ⟨Ao8,co8,eo8⟩:=yk HO122.out;subst eo8
  go_wp2
  go_meet
  case rel => exact ⟨_,(decide ((a0.size : Int) > 50)),(by first|rfl|(simp;done)|(simp [*];done)),H',⟨by first|omega|exact ye _⟩,⟨by (with_reducible repeat (first|apply zm|apply zn|apply zo));exact HO122.out⟩,⟨by repeat (with_reducible first|exact HB.out|apply za|apply zb|apply zc)⟩⟩
 case rest =>
  clear HC4
  try clear c2
  try clear c2b0
  try clear c2b1
  try clear p2
  try clear c3
  try clear c4
  try clear c6
  try clear c6b0
  try clear c6b1
  obtain ⟨kq,x17_3,rfl,HA,HJ3,HO_3,HB⟩:=hcut
  cases kq with
  | zero => exact absurd HA.out (by simp [spec_PathOK.j0])
  | succ kj3 =>
   have H:=HA.out;clear HA;simp only [spec_PathOK.j0] at H
   by_cases c9 : x17_3=true
   ·
    subst c9
    have H1 : (some false)=some r:=by rw [if_pos rfl] at H;exact H
    clear H;have H:=H1;clear H1;obtain rfl:=zU H
    go_wp2
    go_ret
    exact ⟨by first|rfl|(simp [yt,yu] <;> rfl)|(simp [*,yt,yu] <;> rfl),by repeat (with_reducible first|exact HB.out|apply za|apply zb|apply zc)⟩
   replace c9:=yb.mpr c9;subst c9;have H1 : (spec_PathOK.l0 kj3 t120 0)=some r:=by rw [if_neg (show ¬ (false=true) by decide)] at H;exact H
   clear H;have H:=H1;clear H1;have H':=zh H;clear H
   go_wp2
   go_loopg [4] kj3 (fun kq v4 w' => ∃ (x4_2 : Int),v4 = .int .i64 x4_2∧Aside0 (spec_PathOK.l0 kq t120 x4_2=some r)∧Aside0 (kq≤kj3)∧Aside0 (Kd.R Kd.string 9 w' w.heap.size (fun _ => True) v121 t120)∧Aside0 (Below w.heap.size w w'))
   case atStart => exact ⟨(0),(by first|rfl|(simp;done)|(simp [*];done)),H',⟨ye _⟩,⟨by (with_reducible repeat (first|apply zm|apply zn|apply zo));exact HO_3.out⟩,⟨by repeat (with_reducible first|exact HB.out|apply za|apply zb|apply zc)⟩⟩
   case round =>
    clear H'
    try clear c2
    try clear c2b0
    try clear c2b1
    try clear p2
    try clear c3
    try clear c4
    try clear c6
    try clear c6b0
    try clear c6b1
    try clear c9
    try clear p2
    obtain ⟨x4_2,rfl,HA,HK2,HO_3,HB⟩:=hrel
    cases gk with
    | zero => exact absurd HA.out (by simp [spec_PathOK.l0])
    | succ k2 =>
     have H:=HA.out;clear HA;simp only [spec_PathOK.l0] at H
     by_cases c10 : x4_2<(t120.length : Int)
     ·
      rw [if_pos c10] at H
      have c10b0 : decide (x4_2<(t120.length : Int))=true:=decide_eq_true c10;clear c10
      by_cases c11 : 0≤x4_2
      ·
       rw [if_pos c11] at H
       have c11b0 : decide (0≤x4_2)=true:=decide_eq_true c11;clear c11;replace H:=zT.mp H;obtain ⟨t124,A120,H⟩:=H;replace H : (if t124=true then (spec_PathOK.l0 k2 t120 (wrap64 (x4_2 + 1))) else (some false))=some r:=H;have A12:=zh A120;clear A120
       by_cases c13 : t124=true
       ·
        subst c13
        have H1 : (spec_PathOK.l0 k2 t120 (wrap64 (x4_2 + 1)))=some r:=by rw [if_pos rfl] at H;exact H
        clear H;have H:=H1;clear H1;have H':=zh H;clear H;obtain ⟨Ao14,co14,eo14⟩:=yk HO_3.out;subst eo14;have p123 : 0≤(x4_2 : Int):=zy (by first|(with_reducible assumption)|assumption);have q123 : x4_2<(t120.length : Int):=zy (by first|(with_reducible assumption)|assumption);obtain ⟨ad123,e123,hx123_0⟩:=Kd.at_string (yh HO_3.out).2.2 x4_2 p123 q123
        cases e123
        replace p123:=eq_true p123;replace q123:=eq_true q123
        go_wp2_with (first|((with_reducible refine zJ (f:=28) rfl ?_);refine yj (some 28) rfl rfl Tryd.func28 (by kernel_rfl) rfl #[.string (rdOf ByteArray.empty t120 x4_2)] rfl (by (try simp only [zt,zu,zv]);first|done|rfl|(simp only [zw,zx];rfl)|(simp only [yr,ys,zV,zW];rfl)) ?_;(with_reducible refine (spec_l01Name.calls k2  (rdOf ByteArray.empty t120 x4_2) true _ A12.out).mono ?_);rintro e w' ⟨rfl,⟨nd,rfl⟩⟩;refine ⟨_,rfl,?_⟩))
        go_roundg k2
        case measure => have:=HJ3.out;have:=HK2.out;omega
        case rel => exact ⟨(wrap64 (x4_2 + 1)),(by first|rfl|(simp;done)|(simp [*];done)),H',⟨by have:=HJ3.out;have:=HK2.out;omega⟩,⟨by (with_reducible repeat (first|apply zm|apply zn|apply zo));exact HO_3.out⟩,⟨by repeat (with_reducible first|exact HB.out|apply za|apply zb|apply zc)⟩⟩
       replace c13:=yb.mpr c13;subst c13;have H1 : (some false)=some r:=by rw [if_neg (show ¬ (false=true) by decide)] at H;exact H
       clear H;have H:=H1;clear H1;obtain rfl:=zU H;obtain ⟨Ao15,co15,eo15⟩:=yk HO_3.out;subst eo15;have p123 : 0≤(x4_2 : Int):=zy (by first|(with_reducible assumption)|assumption);have q123 : x4_2<(t120.length : Int):=zy (by first|(with_reducible assumption)|assumption);obtain ⟨ad123,e123,hx123_0⟩:=Kd.at_string (yh HO_3.out).2.2 x4_2 p123 q123
       cases e123
       replace p123:=eq_true p123;replace q123:=eq_true q123
       go_wp2_with (first|((with_reducible refine zJ (f:=28) rfl ?_);refine yj (some 28) rfl rfl Tryd.func28 (by kernel_rfl) rfl #[.string (rdOf ByteArray.empty t120 x4_2)] rfl (by (try simp only [zt,zu,zv]);first|done|rfl|(simp only [zw,zx];rfl)|(simp only [yr,ys,zV,zW];rfl)) ?_;(with_reducible refine (spec_l01Name.calls k2  (rdOf ByteArray.empty t120 x4_2) false _ A12.out).mono ?_);rintro e w' ⟨rfl,⟨nd,rfl⟩⟩;refine ⟨_,rfl,?_⟩))
       go_ret
       exact ⟨by first|rfl|(simp [yt,yu] <;> rfl)|(simp [*,yt,yu] <;> rfl),by repeat (with_reducible first|exact HB.out|apply za|apply zb|apply zc)⟩
      rw [if_neg c11] at H;exact absurd H (by simp)
     rw [if_neg c10] at H;have c10b0 : decide (x4_2<(t120.length : Int))=false:=decide_eq_false c10;clear c10;obtain rfl:=zU H;obtain ⟨Ao16,co16,eo16⟩:=yk HO_3.out;subst eo16
     go_wp2
     go_ret
     exact ⟨by first|rfl|(simp [yt,yu] <;> rfl)|(simp [*,yt,yu] <;> rfl),by repeat (with_reducible first|exact HB.out|apply za|apply zb|apply zc)⟩

end Go.Proofs.YthjgfjlogilleaaDoor.Q
end
section
namespace Go.Proofs.YthjgfjlogilleaaDoor.Q
open Go.RowKit Go.Proofs.YthjgfjlogilleaaDoorW.PrintWords Go.Proofs.YthjgfjlogilleaaDoorW.PrintLast Go.Proofs.YthjgfjlogilleaaDoorW.PrintMore
attribute [local go_sem] max2_int min2_int max_two min_two max_three min_three max_four min_four max2_str min2_str str_geq str_gtr str_leq   -- for this text's walks alone
set_option linter.unusedVariables false
set_option linter.unusedSimpArgs false

def spec_l01Of.l0 : Nat→ByteArray→Int→Int→Option (Int)
 | 0,_,_,_ => none
 | k + 1,x0,x3,x4 => if x4<(x0.size : Int) then (if 0≤x4 then (spec_l01Of.l0 k x0 (wrap64 ((wrap64 (x3 * 256)) + (wrap64 (bt x0 x4)))) (wrap64 (x4 + 1))) else (none)) else (some x3)
def spec_l01Of.f (k : Nat) (a0 : ByteArray) : Option (Int):=spec_l01Of.l0 k a0 0 0
theorem spec_l01Of.mono_l : ∀ k,(∀ y0 y1 y2,LeO (spec_l01Of.l0 k y0 y1 y2) (spec_l01Of.l0 (k + 1) y0 y1 y2))
 | 0 => fun _ _ _ r h => by simp [spec_l01Of.l0] at h
 | k + 1 => by
  have ih0:=spec_l01Of.mono_l k;intro y0 y1 y2;unfold spec_l01Of.l0
  repeat' first|(with_reducible exact ih0 _ _ _)|(with_reducible exact zQ _)|(with_reducible exact zN _)|(with_reducible refine zP ?_ ?_)|(with_reducible refine zO ?_ (fun _ => ?_))|refine zP ?_ ?_|refine zO ?_ (fun _ => ?_)
theorem spec_l01Of.mono : ∀ a0 k,LeO (spec_l01Of.f k a0) (spec_l01Of.f (k + 1) a0):=by
 intro a0 k;have ih0:=spec_l01Of.mono_l k;unfold spec_l01Of.f
 repeat' first|(with_reducible exact ih0 _ _ _)|(with_reducible exact zQ _)|(with_reducible exact zN _)|(with_reducible refine zP ?_ ?_)|(with_reducible refine zO ?_ (fun _ => ?_))|refine zP ?_ ?_|refine zO ?_ (fun _ => ?_)
set_option maxHeartbeats 8000000 in
set_option maxRecDepth 100000 in
theorem spec_l01Of.calls (k : Nat) (a0 : ByteArray) (r : Int) (w : World) (h : spec_l01Of.f k a0=some r) :
  Calls Tryd.prog 88 #[.string a0] w fun e w' => e = .returned (.int .i64 r)∧Drawn0 w w':=by
 have H : (spec_l01Of.l0 k a0 0 0)=some r:=h;clear h;have H':=zh H;clear H
 go_enter Tryd.func88,Tryd.ntmps88
 go_wp2
 go_loopg [3,4] k (fun kq v3 v4 w' => ∃ (x3_1 : Int) (x4_1 : Int),v3 = .int .i64 x3_1∧v4 = .int .i64 x4_1∧Aside0 (spec_l01Of.l0 kq a0 x3_1 x4_1=some r)∧Aside0 (kq≤k)∧Drawn0 w w')
 case atStart => exact ⟨(0),(0),(by first|rfl|(simp;done)|(simp [*];done)),(by first|rfl|(simp;done)|(simp [*];done)),H',⟨ye _⟩,by repeat (first|exact yp _|apply yq)⟩
 case round =>
  clear H';obtain ⟨x3_1,x4_1,rfl,rfl,HA,HK1,⟨m1,rfl⟩⟩:=hrel
  cases gk with
  | zero => exact absurd HA.out (by simp [spec_l01Of.l0])
  | succ k1 =>
   have H:=HA.out;clear HA;simp only [spec_l01Of.l0] at H
   by_cases c2 : x4_1<(a0.size : Int)
   ·
    rw [if_pos c2] at H
    have c2b0 : decide (x4_1<(a0.size : Int))=true:=decide_eq_true c2;clear c2
    by_cases c3 : 0≤x4_1
    ·
     rw [if_pos c3] at H
     have c3b0 : decide (0≤x4_1)=true:=decide_eq_true c3;clear c3;have H':=zh H;clear H;have p4 : 0≤(x4_1 : Int):=zy (by first|(with_reducible assumption)|assumption);have q4 : x4_1<(a0.size : Int):=zy (by first|(with_reducible assumption)|assumption);have hx4:=bt_at a0 x4_1;replace p4:=eq_true p4;replace q4:=eq_true q4
     go_wp2
     go_roundg k1
     case measure => have:=HK1.out;omega
     case rel => exact ⟨(wrap64 ((wrap64 (x3_1 * 256)) + (wrap64 (bt a0 x4_1)))),(wrap64 (x4_1 + 1)),(by first|rfl|(simp;done)|(simp [*];done)),(by first|rfl|(simp;done)|(simp [*];done)),H',⟨by have:=HK1.out;omega⟩,by repeat (first|exact yp _|apply yq)⟩
    rw [if_neg c3] at H;exact absurd H (by simp)
   rw [if_neg c2] at H;have c2b0 : decide (x4_1<(a0.size : Int))=false:=decide_eq_false c2;clear c2;obtain rfl:=zU H
   go_wp2
   go_ret
   exact ⟨by first|rfl|(simp;done)|(simp [*];done),by repeat (first|exact yp _|apply yq)⟩

end Go.Proofs.YthjgfjlogilleaaDoor.Q
end
section
namespace Go.Proofs.YthjgfjlogilleaaDoor.Q
open Go.RowKit Go.Proofs.YthjgfjlogilleaaDoorW.PrintWords Go.Proofs.YthjgfjlogilleaaDoorW.PrintLast Go.Proofs.YthjgfjlogilleaaDoorW.PrintMore
attribute [local go_sem] max2_int min2_int max_two min_two max_three min_three max_four min_four max2_str min2_str str_geq str_gtr str_leq   -- for this text's walks alone
set_option linter.unusedVariables false
set_option linter.unusedSimpArgs false

mutual
def spec_l01Next.j1 : Nat→ByteArray→Int→Int→Int→ByteArray→Option (Int×Int×ByteArray×ByteArray×Bool)
 | 0,_,_,_,_,_ => none
 | k + 1,x0,x6,x204000,x204001,x204002 => if (x0.size : Int)<(wrap64 (1 + x6)) then (some (0,0,(⟨#[]⟩ : ByteArray),(⟨#[]⟩ : ByteArray),false)) else (if x6=1 then (if 1<(x0.size : Int) then (if 0≤(wrap64 (1 + x6)) then (if (wrap64 (1 + x6))≤(x0.size : Int) then (some (x204000,wrap64 (bt x0 1),x204002,x0.extract ((wrap64 (1 + x6)) : Int).toNat x0.size,true)) else (none)) else (none)) else (none)) else (if 1<(x0.size : Int) then (if (bt x0 1) > 127 then (some (0,0,(⟨#[]⟩ : ByteArray),(⟨#[]⟩ : ByteArray),false)) else (if 1≤9 then (if 9≤(x0.size : Int) then ((spec_l01Of.f k (x0.extract 1 9)).bind fun t205 => (if 0≤(wrap64 (1 + x6)) then (if (wrap64 (1 + x6))≤(x0.size : Int) then (some (x204000,wrap64 (t205 - 4611686018427387904),x204002,x0.extract ((wrap64 (1 + x6)) : Int).toNat x0.size,true)) else (none)) else (none))) else (none)) else (none))) else (none)))
def spec_l01Next.j0 : Nat→ByteArray→Bool→Int→Int→ByteArray→Option (Int×Int×ByteArray×ByteArray×Bool)
 | 0,_,_,_,_,_ => none
 | k + 1,x0,x28,x204000,x204001,x204002 => if x28=true then (if (x0.size : Int)<3 then (some (0,0,(⟨#[]⟩ : ByteArray),(⟨#[]⟩ : ByteArray),false)) else (if 1≤3 then (if 3≤(x0.size : Int) then ((spec_l01Of.f k (x0.extract 1 3)).bind fun t204 => (if (x0.size : Int)<(wrap64 (3 + t204)) then (some (0,0,(⟨#[]⟩ : ByteArray),(⟨#[]⟩ : ByteArray),false)) else (if 3≤(wrap64 (3 + t204)) then (if (wrap64 (3 + t204))≤(x0.size : Int) then (if 0≤(wrap64 (3 + t204)) then (some (x204000,x204001,x0.extract 3 ((wrap64 (3 + t204)) : Int).toNat,x0.extract ((wrap64 (3 + t204)) : Int).toNat x0.size,true)) else (none)) else (none)) else (none)))) else (none)) else (none))) else (some (0,0,(⟨#[]⟩ : ByteArray),(⟨#[]⟩ : ByteArray),false))
end
def spec_l01Next.f (k : Nat) (a0 : ByteArray) : Option (Int×Int×ByteArray×ByteArray×Bool):=if (a0.size : Int)=0 then (some (0,0,(⟨#[]⟩ : ByteArray),(⟨#[]⟩ : ByteArray),false)) else (if 0<(a0.size : Int) then (if (wrap64 (bt a0 0))=0 then (if 1≤(a0.size : Int) then (some (wrap64 (bt a0 0),0,(⟨#[]⟩ : ByteArray),a0.extract 1 a0.size,true)) else (none)) else (if (wrap64 (bt a0 0))=1 then (spec_l01Next.j1 k a0 1 (wrap64 (bt a0 0)) 0 (⟨#[]⟩ : ByteArray)) else (if (wrap64 (bt a0 0))=2 then (spec_l01Next.j1 k a0 8 (wrap64 (bt a0 0)) 0 (⟨#[]⟩ : ByteArray)) else (if (wrap64 (bt a0 0))=3 then (spec_l01Next.j0 k a0 ((wrap64 (bt a0 0)) == 3) (wrap64 (bt a0 0)) 0 (⟨#[]⟩ : ByteArray)) else (if (wrap64 (bt a0 0))=4 then (spec_l01Next.j0 k a0 ((wrap64 (bt a0 0)) == 4) (wrap64 (bt a0 0)) 0 (⟨#[]⟩ : ByteArray)) else (spec_l01Next.j0 k a0 ((wrap64 (bt a0 0)) == 5) (wrap64 (bt a0 0)) 0 (⟨#[]⟩ : ByteArray))))))) else (none))
theorem spec_l01Next.mono_l : ∀ k,(∀ y0 y1 y2 y3 y4,LeO (spec_l01Next.j1 k y0 y1 y2 y3 y4) (spec_l01Next.j1 (k + 1) y0 y1 y2 y3 y4))∧(∀ y0 y1 y2 y3 y4,LeO (spec_l01Next.j0 k y0 y1 y2 y3 y4) (spec_l01Next.j0 (k + 1) y0 y1 y2 y3 y4))
 | 0 => ⟨fun _ _ _ _ _ r h => by simp [spec_l01Next.j1] at h,fun _ _ _ _ _ r h => by simp [spec_l01Next.j0] at h⟩
 | k + 1 => by
  obtain ⟨ih0,ih1⟩:=spec_l01Next.mono_l k;refine ⟨?_,?_⟩
  ·
   intro y0 y1 y2 y3 y4
   unfold spec_l01Next.j1
   repeat' first|(with_reducible exact ih0 _ _ _ _ _)|(with_reducible exact ih1 _ _ _ _ _)|(with_reducible exact spec_l01Of.mono _ _)|(with_reducible exact zQ _)|(with_reducible exact zN _)|(with_reducible refine zP ?_ ?_)|(with_reducible refine zO ?_ (fun _ => ?_))|refine zP ?_ ?_|refine zO ?_ (fun _ => ?_)
  intro y0 y1 y2 y3 y4;unfold spec_l01Next.j0
  repeat' first|(with_reducible exact ih0 _ _ _ _ _)|(with_reducible exact ih1 _ _ _ _ _)|(with_reducible exact spec_l01Of.mono _ _)|(with_reducible exact zQ _)|(with_reducible exact zN _)|(with_reducible refine zP ?_ ?_)|(with_reducible refine zO ?_ (fun _ => ?_))|refine zP ?_ ?_|refine zO ?_ (fun _ => ?_)
theorem spec_l01Next.mono : ∀ a0 k,LeO (spec_l01Next.f k a0) (spec_l01Next.f (k + 1) a0):=by
 intro a0 k;obtain ⟨ih0,ih1⟩:=spec_l01Next.mono_l k;unfold spec_l01Next.f
 repeat' first|(with_reducible exact ih0 _ _ _ _ _)|(with_reducible exact ih1 _ _ _ _ _)|(with_reducible exact spec_l01Of.mono _ _)|(with_reducible exact zQ _)|(with_reducible exact zN _)|(with_reducible refine zP ?_ ?_)|(with_reducible refine zO ?_ (fun _ => ?_))|refine zP ?_ ?_|refine zO ?_ (fun _ => ?_)
def spec_l01Next.T22 : Bool×List (List Nat×List Nat):=(true,[([],[]),([],[]),([],[]),([2],[2]),([1,3],[1,3]),([0,0],[0]),([4,5,0,1,2,3,4,5],[4]),([6,0,1,2,3,4,5,6],[])])
def spec_l01Next.B22 : List Nat:=[0,0,0,4,14,1,63,127]
theorem spec_l01Next.tab22 : rtab .any (opsOf Tryd.f80 22)=spec_l01Next.T22:=by kernel_rfl
theorem spec_l01Next.bits22 : waitsOk spec_l01Next.T22.2 spec_l01Next.B22=true:=by kernel_rfl
def spec_l01Next.T30 : Bool×List (List Nat×List Nat):=(true,[([],[]),([],[]),([],[]),([2],[2]),([1,3],[1,3]),([0,0],[0]),([4,5,0,1,2,3,4,5],[4]),([6,0,1,2,3,4,5,6],[])])
def spec_l01Next.B30 : List Nat:=[0,0,0,4,14,1,63,127]
theorem spec_l01Next.tab30 : rtab .any (opsOf Tryd.f80 30)=spec_l01Next.T30:=by kernel_rfl
theorem spec_l01Next.bits30 : waitsOk spec_l01Next.T30.2 spec_l01Next.B30=true:=by kernel_rfl
set_option maxHeartbeats 8000000 in
set_option maxRecDepth 100000 in
theorem spec_l01Next.calls (k : Nat) (a0 : ByteArray) (r1 : Int) (r2 : Int) (r3 : ByteArray) (r4 : ByteArray) (r5 : Bool) (w : World) (h : spec_l01Next.f k a0=some (r1,r2,r3,r4,r5)) :
  Calls Tryd.prog 80 #[.string a0] w fun e w' => e = .returned (.tuple #[.agg #[.int .i64 r1,.int .i64 r2,.string r3],.string r4,.bool r5])∧Below w.heap.size w w':=by
 have hu39:=Tryd.underlying39;have HB:=zh (Below.refl w.heap.size w);have H : (if (a0.size : Int)=0 then (some (0,0,(⟨#[]⟩ : ByteArray),(⟨#[]⟩ : ByteArray),false)) else (if 0<(a0.size : Int) then (if (wrap64 (bt a0 0))=0 then (if 1≤(a0.size : Int) then (some (wrap64 (bt a0 0),0,(⟨#[]⟩ : ByteArray),a0.extract 1 a0.size,true)) else (none)) else (if (wrap64 (bt a0 0))=1 then (spec_l01Next.j1 k a0 1 (wrap64 (bt a0 0)) 0 (⟨#[]⟩ : ByteArray)) else (if (wrap64 (bt a0 0))=2 then (spec_l01Next.j1 k a0 8 (wrap64 (bt a0 0)) 0 (⟨#[]⟩ : ByteArray)) else (if (wrap64 (bt a0 0))=3 then (spec_l01Next.j0 k a0 ((wrap64 (bt a0 0)) == 3) (wrap64 (bt a0 0)) 0 (⟨#[]⟩ : ByteArray)) else (if (wrap64 (bt a0 0))=4 then (spec_l01Next.j0 k a0 ((wrap64 (bt a0 0)) == 4) (wrap64 (bt a0 0)) 0 (⟨#[]⟩ : ByteArray)) else (spec_l01Next.j0 k a0 ((wrap64 (bt a0 0)) == 5) (wrap64 (bt a0 0)) 0 (⟨#[]⟩ : ByteArray))))))) else (none)))=some (r1,r2,r3,r4,r5):=h;clear h
 by_cases c2 : (a0.size : Int)=0
 ·
  rw [if_pos c2] at H
  have c2b0 : ((a0.size : Int) == 0)=true:=ya.mpr c2;have c2b1 : ((a0.size : Int) != 0)=false:=zX.mpr c2;clear c2;simp only [Option.some.injEq,Prod.mk.injEq] at H;obtain ⟨rfl,rfl,rfl,rfl,rfl⟩:=H
  go_enter Tryd.func80,Tryd.ntmps80
  go_wp2_with (first|((with_reducible refine zK (N:=2) rfl ?_);refine zI ?hg (N:=2) ?hd (cs:=#[.int .i64 0,.int .i64 0,.string (⟨#[]⟩ : ByteArray)]) (t:=39) ?hr ?_;(case hd => rfl);(case hg => rfl);(case hr => first|(go_simp;done)|(go_simp;rfl));intro gb202 hg w3 hbox hb;have BK202:=zh (hbox);have GW202:=zh ((by rw [hg];exact (zB (by repeat (with_reducible first|exact HB.out|apply za|apply zb|apply zc))) : w.heap.size≤gb202));have GE202:=zh ((by rw [hg];exact (zB (by repeat (with_reducible first|exact HB.out|apply za|apply zb|apply zc))) : w.heap.size≤gb202));replace HB:=zh (zC (by repeat (with_reducible first|exact HB.out|apply za|apply zb|apply zc)) hb);clear hb hbox hg;have hcz4_0 : w3.cell? ⟨gb202,0,none⟩=some (.int .i64 0):=(zz BK202.out 0).trans rfl;have hcz4_1 : w3.cell? ⟨gb202,1,none⟩=some (.int .i64 0):=(zz BK202.out 1).trans rfl;have hcz4_2 : w3.cell? ⟨gb202,2,none⟩=some (.string (⟨#[]⟩ : ByteArray)):=(zz BK202.out 2).trans rfl;have hfz4_0:=zA BK202.out 0;have hfz4_1:=zA BK202.out 1;have hfz4_2:=zA BK202.out 2))
  refine bodyPost_ret (results_ctt rfl _ _ gb202 39 #[.int .i64 0,.int .i64 0,.string (⟨#[]⟩ : ByteArray)] (0,0) _ rfl (by (with_reducible repeat (first|refine ze ?_ _|refine zf ?_|refine zg ?_ _));refine zL (cs:=#[.int .i64 0,.int .i64 0,.string (⟨#[]⟩ : ByteArray)]) ?_ 2 _ rfl;(with_reducible repeat (first|refine ze ?_ _|refine zf ?_|refine zg ?_ _));refine zL (cs:=#[.int .i64 0,.int .i64 0,.string (⟨#[]⟩ : ByteArray)]) ?_ 1 _ rfl;(with_reducible repeat (first|refine ze ?_ _|refine zf ?_|refine zg ?_ _));refine zL (cs:=#[.int .i64 0,.int .i64 0,.string (⟨#[]⟩ : ByteArray)]) ?_ 0 _ rfl;(with_reducible repeat (first|refine ze ?_ _|refine zf ?_|refine zg ?_ _));exact BK202.out) Tryd.underlying39 rfl (by kernel_rfl)) rfl ?_;exact ⟨by first|rfl|(simp [yt,yu] <;> rfl)|(simp [*,yt,yu] <;> rfl),by repeat (with_reducible first|exact HB.out|apply za|apply zb|apply zc|refine zd ?_ GE202.out)⟩
 rw [if_neg c2] at H;have c2b0 : ((a0.size : Int) == 0)=false:=zY.mpr c2;have c2b1 : ((a0.size : Int) != 0)=true:=zZ.mpr c2
 by_cases c5 : 0<(a0.size : Int)
 ·
  rw [if_pos c5] at H
  have c5b0 : decide (0<(a0.size : Int))=true:=decide_eq_true c5;have c5b1 : decide (0<a0.size)=true:=decide_eq_true (by omega);clear c5;have HC7:=zh H;clear H
  go_enter Tryd.func80,Tryd.ntmps80
  go_upto_block 0 with (first|((with_reducible refine zK (N:=2) rfl ?_);refine zI ?hg (N:=2) ?hd (cs:=#[.int .i64 0,.int .i64 0,.string (⟨#[]⟩ : ByteArray)]) (t:=39) ?hr ?_;(case hd => rfl);(case hg => rfl);(case hr => first|(go_simp;done)|(go_simp;rfl));intro gb202 hg w8 hbox hb;have BK202:=zh (hbox);have GW202:=zh ((by rw [hg];exact (zB (by repeat (with_reducible first|exact HB.out|apply za|apply zb|apply zc))) : w.heap.size≤gb202));have GE202:=zh ((by rw [hg];exact (zB (by repeat (with_reducible first|exact HB.out|apply za|apply zb|apply zc))) : w.heap.size≤gb202));replace HB:=zh (zC (by repeat (with_reducible first|exact HB.out|apply za|apply zb|apply zc)) hb);clear hb hbox hg;have p6 : 0≤(0 : Int):=(by omega);have q6 : 0<a0.size:=(by have : (0 : Int)<(a0.size : Int):=zy (by first|(with_reducible assumption)|assumption);omega);have hx6 : ∀ h : 0<a0.size,((a0[0]'h).toNat : Int)=bt a0 0:=bt_at a0 0;clear p6;have qi6 : (0<(a0.size : Int))=True:=eq_true (zy (by first|(with_reducible assumption)|assumption));replace q6:=eq_true q6)|((with_reducible refine zK (N:=5) rfl ?_);refine zI ?hg (N:=5) ?hd (cs:=#[.int .i64 0,.int .i64 0,.string (⟨#[]⟩ : ByteArray)]) (t:=39) ?hr ?_;(case hd => rfl);(case hg => rfl);(case hr => first|(go_simp;done)|(go_simp;rfl));intro gb203 hg w9 hbox hb;have BK203:=zh (hbox);have GW203:=zh ((by rw [hg];exact (zB (by repeat (with_reducible first|exact HB.out|apply za|apply zb|apply zc|refine zd ?_ GE202.out))) : w.heap.size≤gb203));have GE203:=zh ((by rw [hg];exact (zB (by repeat (with_reducible first|exact HB.out|apply za|apply zb|apply zc|refine zd ?_ GE202.out))) : w.heap.size≤gb203));replace HB:=zh (zC (by repeat (with_reducible first|exact HB.out|apply za|apply zb|apply zc|refine zd ?_ GE202.out)) hb);have NB202_203:=zh ((by rw [hg];exact yc (yi (g:=gb202) (o:=.cells #[.int .i64 0,.int .i64 0,.string (⟨#[]⟩ : ByteArray)] 39 (0,0)) (by (with_reducible repeat (first|refine ze ?_ _|refine zf ?_|refine zg ?_ _));exact BK202.out)) : gb202≠gb203));have NB203_202:=zh ((by rw [hg];exact yd (yi (g:=gb202) (o:=.cells #[.int .i64 0,.int .i64 0,.string (⟨#[]⟩ : ByteArray)] 39 (0,0)) (by (with_reducible repeat (first|refine ze ?_ _|refine zf ?_|refine zg ?_ _));exact BK202.out)) : gb203≠gb202));replace BK202:=zh (zD (g:=gb202) (o:=.cells #[.int .i64 0,.int .i64 0,.string (⟨#[]⟩ : ByteArray)] 39 (0,0)) (by (with_reducible repeat (first|refine ze ?_ _|refine zf ?_|refine zg ?_ _));exact BK202.out) hb);clear hb hbox hg;have hnb10:=NB203_202.out;have hnc10:=NB202_203.out;have hcz11_0 : w9.cell? ⟨gb203,0,none⟩=some (.int .i64 0):=(zz BK203.out 0).trans rfl;have hcz11_1 : w9.cell? ⟨gb203,1,none⟩=some (.int .i64 0):=(zz BK203.out 1).trans rfl;have hcz11_2 : w9.cell? ⟨gb203,2,none⟩=some (.string (⟨#[]⟩ : ByteArray)):=(zz BK203.out 2).trans rfl;have hfz11_0:=zA BK203.out 0;have hfz11_1:=zA BK203.out 1;have hfz11_2:=zA BK203.out 2))
  (try simp only [Act.put,zi,zj,zk])
  go_cut [6] (fun v6 wc => ∃ (kq : Nat) (x6_6 : Int) (x203000_6 : Int) (x203001_6 : Int) (x203002_6 : ByteArray) (x204002_6 : ByteArray),v6 = .int .i64 x6_6∧Aside0 (spec_l01Next.j1 kq a0 x6_6 (wrap64 (bt a0 0)) 0 x204002_6=some (r1,r2,r3,r4,r5))∧Aside0 (kq≤k)∧Aside0 (wc.heap[gb202]? = some (.cells #[.int .i64 x203000_6,.int .i64 x203001_6,.string x203002_6] 39 (0,0)))∧Aside0 (wc.heap[gb203]? = some (.cells #[.int .i64 (wrap64 (bt a0 0)),.int .i64 0,.string x204002_6] 39 (0,0)))∧Aside0 (Below w.heap.size w wc))
  case first =>
   have H:=HC7.out;clear HC7
   by_cases c12 : (wrap64 (bt a0 0))=0
   ·
    rw [if_pos c12] at H
    have c12b0 : ((wrap64 (bt a0 0)) == 0)=true:=ya.mpr c12;have c12b1 : ((wrap64 (bt a0 0)) != 0)=false:=zX.mpr c12;clear c12;(first|rw [c12b0]|(simp only [zG,zH];rw [c12b0])|skip)
    by_cases c13 : 1≤(a0.size : Int)
    ·
     rw [if_pos c13] at H
     have c13b0:=eq_true c13;have c13b1 : decide (1≤(a0.size : Int))=true:=decide_eq_true c13;clear c13;simp only [Option.some.injEq,Prod.mk.injEq] at H;obtain ⟨rfl,rfl,rfl,rfl,rfl⟩:=H
     try go_wp2
     have n0_ : Aside0 ((((w9.setCell ⟨gb203,0,none⟩ (.int .i64 (wrap64 (bt a0 0)))).setCell ⟨gb203,1,none⟩ (.int .i64 0)).setCell ⟨gb203,2,none⟩ (.string (⟨#[]⟩ : ByteArray))).heap[gb202]? = some (.cells #[.int .i64 0,.int .i64 0,.string (⟨#[]⟩ : ByteArray)] 39 (0,0))):=⟨by (with_reducible repeat (first|refine ze ?_ _|refine zf ?_|refine zg ?_ _));refine zS ?_ NB202_203.out _;(with_reducible repeat (first|refine ze ?_ _|refine zf ?_|refine zg ?_ _));refine zS ?_ NB202_203.out _;(with_reducible repeat (first|refine ze ?_ _|refine zf ?_|refine zg ?_ _));refine zS ?_ NB202_203.out _;(with_reducible repeat (first|refine ze ?_ _|refine zf ?_|refine zg ?_ _));exact BK202.out⟩;have n1_ : Aside0 ((((w9.setCell ⟨gb203,0,none⟩ (.int .i64 (wrap64 (bt a0 0)))).setCell ⟨gb203,1,none⟩ (.int .i64 0)).setCell ⟨gb203,2,none⟩ (.string (⟨#[]⟩ : ByteArray))).heap[gb203]? = some (.cells #[.int .i64 (wrap64 (bt a0 0)),.int .i64 0,.string (⟨#[]⟩ : ByteArray)] 39 (0,0))):=⟨by (with_reducible repeat (first|refine ze ?_ _|refine zf ?_|refine zg ?_ _));refine zL (cs:=#[.int .i64 (wrap64 (bt a0 0)),.int .i64 0,.string (⟨#[]⟩ : ByteArray)]) ?_ 2 _ rfl;(with_reducible repeat (first|refine ze ?_ _|refine zf ?_|refine zg ?_ _));refine zL (cs:=#[.int .i64 (wrap64 (bt a0 0)),.int .i64 0,.string (⟨#[]⟩ : ByteArray)]) ?_ 1 _ rfl;(with_reducible repeat (first|refine ze ?_ _|refine zf ?_|refine zg ?_ _));refine zL (cs:=#[.int .i64 0,.int .i64 0,.string (⟨#[]⟩ : ByteArray)]) ?_ 0 _ rfl;(with_reducible repeat (first|refine ze ?_ _|refine zf ?_|refine zg ?_ _));exact BK203.out⟩;have n2_ : Aside0 (Below w.heap.size w (((w9.setCell ⟨gb203,0,none⟩ (.int .i64 (wrap64 (bt a0 0)))).setCell ⟨gb203,1,none⟩ (.int .i64 0)).setCell ⟨gb203,2,none⟩ (.string (⟨#[]⟩ : ByteArray)))):=⟨by repeat (with_reducible first|exact HB.out|apply za|apply zb|apply zc|refine zd ?_ GE202.out|refine zd ?_ GE203.out)⟩;(try clear BK202);(try clear BK203);(try clear HB);generalize (((w9.setCell ⟨gb203,0,none⟩ (.int .i64 (wrap64 (bt a0 0)))).setCell ⟨gb203,1,none⟩ (.int .i64 0)).setCell ⟨gb203,2,none⟩ (.string (⟨#[]⟩ : ByteArray)))=w14 at n0_ n1_ n2_ ⊢;have BK202:=n0_;have BK203:=n1_;have HB:=n2_;clear n0_ n1_ n2_;replace BK202:=zh (zf BK202.out);replace BK203:=zh (zf BK203.out);replace HB:=zh (zc HB.out);refine start_ (n:=6) (S:=fun w' => w'.cell? ⟨gb203,0,none⟩=some (.int .i64 (wrap64 (bt a0 0)))∧w'.cell? ⟨gb203,1,none⟩=some (.int .i64 0)∧w'.cell? ⟨gb203,2,none⟩=some (.string (⟨#[]⟩ : ByteArray))) (ds:=[]) (bm_ 0 6) (by kernel_rfl) rfl rfl ⟨(zz BK203.out 0).trans rfl,(zz BK203.out 1).trans rfl,(zz BK203.out 2).trans rfl⟩ (fun hHeld => ?_);generalize w14.drew=w15 at BK202 BK203 HB hHeld ⊢;refine pure_ (i:=1) (N:=some 22) (v:=?_) (a':=?_) #[false,true,false,false,false,false] rfl rfl (by kernel_rfl) (fun _ _ _ h => h) (Or.inl ⟨by rfl,?_⟩) ?_ ?_;rotate_left
     ·
      intro w'
      go_simp
      with_reducible rfl
     rotate_left
     ·
      simp only [Act.put,zi,zj,zk,zG,zH]
      rfl
     refine pure_ (i:=2) (N:=some 23) (v:=?_) (a':=?_) #[false,true,true,false,false,false] rfl rfl (by kernel_rfl) (fun _ _ _ h => h) (Or.inl ⟨by rfl,?_⟩) ?_ ?_;rotate_left
     ·
      intro w'
      go_simp
      with_reducible rfl
     rotate_left
     ·
      simp only [Act.put,zi,zj,zk,zG,zH]
      rfl
     refine take_ (i:=0) (N:=some 21) (v:=?_) (a':=?_) (bm_ 3 6) rfl rfl (by kernel_rfl) (fun _ _ _ h => h) (Or.inl ⟨by rfl,?_⟩) hHeld ?_ ?_;rotate_left
     ·
      rintro w' ⟨s0,s1,s2⟩
      go_simp
      with_reducible rfl
     rotate_left
     ·
      simp only [Act.put,zi,zj,zk,zG,zH]
      rfl
     refine one_ (i:=3) (N:=none) (bm_ 4 6) rfl rfl (by kernel_rfl) (by decide) (fun K hK => ?_);have hs16 : w15.cell? ⟨gb202,0,none⟩=some (.int .i64 0):=(zz BK202.out 0).trans rfl;have hfs16:=zA BK202.out 0;have hns16_1:=NB203_202.out;have hms16_1:=NB202_203.out;have hs17 : w15.cell? ⟨gb202,1,none⟩=some (.int .i64 0):=(zz BK202.out 1).trans rfl;have hfs17:=zA BK202.out 1;have hns17_1:=NB203_202.out;have hms17_1:=NB202_203.out;have hs18 : w15.cell? ⟨gb202,2,none⟩=some (.string (⟨#[]⟩ : ByteArray)):=(zz BK202.out 2).trans rfl;have hfs18:=zA BK202.out 2;have hns18_1:=NB203_202.out;have hms18_1:=NB202_203.out;refine skip_ (w1:=?_) (by rfl) rfl ?_ ?_;rotate_left
     ·
      go_simp
      rfl
     refine hK.out _ _ ⟨((zR (p:=⟨gb202,_,none⟩) NB203_202.out _).trans (((zR (p:=⟨gb202,_,none⟩) NB203_202.out _).trans (((zR (p:=⟨gb202,_,none⟩) NB203_202.out _).trans (hHeld.1)))))),((zR (p:=⟨gb202,_,none⟩) NB203_202.out _).trans (((zR (p:=⟨gb202,_,none⟩) NB203_202.out _).trans (((zR (p:=⟨gb202,_,none⟩) NB203_202.out _).trans (hHeld.2.1)))))),((zR (p:=⟨gb202,_,none⟩) NB203_202.out _).trans (((zR (p:=⟨gb202,_,none⟩) NB203_202.out _).trans (((zR (p:=⟨gb202,_,none⟩) NB203_202.out _).trans (hHeld.2.2))))))⟩ (fun hHeld => ?_);clear hK K;refine pure_ (i:=4) (N:=some 3) (v:=?_) (a':=?_) (bm_ 5 6) rfl rfl (by kernel_rfl) (fun _ _ _ h => h) (Or.inl ⟨by rfl,?_⟩) ?_ ?_;rotate_left
     ·
      intro w'
      go_simp
      with_reducible rfl
     rotate_left
     ·
      simp only [Act.put,zi,zj,zk,zG,zH]
      rfl
     refine pure_ (i:=5) (N:=some 4) (v:=?_) (a':=?_) (bm_ 6 6) rfl rfl (by kernel_rfl) (fun _ _ _ h => h) (Or.inl ⟨by rfl,?_⟩) ?_ ?_;rotate_left
     ·
      intro w'
      go_simp
      with_reducible rfl
     rotate_left
     ·
      simp only [Act.put,zi,zj,zk,zG,zH]
      rfl
     refine done_ (by kernel_rfl) ?_
     try go_wp2
     refine bodyPost_ret (results_ctt rfl _ _ gb202 39 #[.int .i64 (wrap64 (bt a0 0)),.int .i64 0,.string (⟨#[]⟩ : ByteArray)] (0,0) _ rfl (by (with_reducible repeat (first|refine ze ?_ _|refine zf ?_|refine zg ?_ _));refine zL (cs:=#[.int .i64 (wrap64 (bt a0 0)),.int .i64 0,.string (⟨#[]⟩ : ByteArray)]) ?_ 2 _ rfl;(with_reducible repeat (first|refine ze ?_ _|refine zf ?_|refine zg ?_ _));refine zL (cs:=#[.int .i64 (wrap64 (bt a0 0)),.int .i64 0,.string (⟨#[]⟩ : ByteArray)]) ?_ 1 _ rfl;(with_reducible repeat (first|refine ze ?_ _|refine zf ?_|refine zg ?_ _));refine zL (cs:=#[.int .i64 0,.int .i64 0,.string (⟨#[]⟩ : ByteArray)]) ?_ 0 _ rfl;(with_reducible repeat (first|refine ze ?_ _|refine zf ?_|refine zg ?_ _));exact BK202.out) Tryd.underlying39 rfl (by kernel_rfl)) rfl ?_;exact ⟨by first|rfl|(simp [yt,yu] <;> rfl)|(simp [*,yt,yu] <;> rfl),by repeat (with_reducible first|exact HB.out|apply za|apply zb|apply zc|refine zd ?_ GE202.out|refine zd ?_ GE203.out)⟩
    rw [if_neg c13] at H;exact absurd H (by simp)
   rw [if_neg c12] at H;have c12b0 : ((wrap64 (bt a0 0)) == 0)=false:=zY.mpr c12;have c12b1 : ((wrap64 (bt a0 0)) != 0)=true:=zZ.mpr c12;(first|rw [c12b0]|(simp only [zG,zH];rw [c12b0])|skip)
   by_cases c19 : (wrap64 (bt a0 0))=1
   ·
    rw [if_pos c19] at H
    have c19b0 : ((wrap64 (bt a0 0)) == 1)=true:=ya.mpr c19;have c19b1 : ((wrap64 (bt a0 0)) != 1)=false:=zX.mpr c19;clear c19;have H':=zh H;clear H
    go_wp2
    go_meet
    case rel => exact ⟨_,(1),(0),(0),((⟨#[]⟩ : ByteArray)),((⟨#[]⟩ : ByteArray)),(by first|rfl|(simp;done)|(simp [*];done)),H',⟨by first|omega|exact ye _⟩,⟨by (with_reducible repeat (first|refine ze ?_ _|refine zf ?_|refine zg ?_ _));refine zS ?_ NB202_203.out _;(with_reducible repeat (first|refine ze ?_ _|refine zf ?_|refine zg ?_ _));refine zS ?_ NB202_203.out _;(with_reducible repeat (first|refine ze ?_ _|refine zf ?_|refine zg ?_ _));refine zS ?_ NB202_203.out _;(with_reducible repeat (first|refine ze ?_ _|refine zf ?_|refine zg ?_ _));exact BK202.out⟩,⟨by (with_reducible repeat (first|refine ze ?_ _|refine zf ?_|refine zg ?_ _));refine zL (cs:=#[.int .i64 (wrap64 (bt a0 0)),.int .i64 0,.string (⟨#[]⟩ : ByteArray)]) ?_ 2 _ rfl;(with_reducible repeat (first|refine ze ?_ _|refine zf ?_|refine zg ?_ _));refine zL (cs:=#[.int .i64 (wrap64 (bt a0 0)),.int .i64 0,.string (⟨#[]⟩ : ByteArray)]) ?_ 1 _ rfl;(with_reducible repeat (first|refine ze ?_ _|refine zf ?_|refine zg ?_ _));refine zL (cs:=#[.int .i64 0,.int .i64 0,.string (⟨#[]⟩ : ByteArray)]) ?_ 0 _ rfl;(with_reducible repeat (first|refine ze ?_ _|refine zf ?_|refine zg ?_ _));exact BK203.out⟩,⟨by repeat (with_reducible first|exact HB.out|apply za|apply zb|apply zc|refine zd ?_ GE202.out|refine zd ?_ GE203.out)⟩⟩
   rw [if_neg c19] at H;have c19b0 : ((wrap64 (bt a0 0)) == 1)=false:=zY.mpr c19;have c19b1 : ((wrap64 (bt a0 0)) != 1)=true:=zZ.mpr c19
   by_cases c20 : (wrap64 (bt a0 0))=2
   ·
    rw [if_pos c20] at H
    have c20b0 : ((wrap64 (bt a0 0)) == 2)=true:=ya.mpr c20;have c20b1 : ((wrap64 (bt a0 0)) != 2)=false:=zX.mpr c20;clear c20;have H':=zh H;clear H
    go_wp2
    go_meet
    case rel => exact ⟨_,(8),(0),(0),((⟨#[]⟩ : ByteArray)),((⟨#[]⟩ : ByteArray)),(by first|rfl|(simp;done)|(simp [*];done)),H',⟨by first|omega|exact ye _⟩,⟨by (with_reducible repeat (first|refine ze ?_ _|refine zf ?_|refine zg ?_ _));refine zS ?_ NB202_203.out _;(with_reducible repeat (first|refine ze ?_ _|refine zf ?_|refine zg ?_ _));refine zS ?_ NB202_203.out _;(with_reducible repeat (first|refine ze ?_ _|refine zf ?_|refine zg ?_ _));refine zS ?_ NB202_203.out _;(with_reducible repeat (first|refine ze ?_ _|refine zf ?_|refine zg ?_ _));exact BK202.out⟩,⟨by (with_reducible repeat (first|refine ze ?_ _|refine zf ?_|refine zg ?_ _));refine zL (cs:=#[.int .i64 (wrap64 (bt a0 0)),.int .i64 0,.string (⟨#[]⟩ : ByteArray)]) ?_ 2 _ rfl;(with_reducible repeat (first|refine ze ?_ _|refine zf ?_|refine zg ?_ _));refine zL (cs:=#[.int .i64 (wrap64 (bt a0 0)),.int .i64 0,.string (⟨#[]⟩ : ByteArray)]) ?_ 1 _ rfl;(with_reducible repeat (first|refine ze ?_ _|refine zf ?_|refine zg ?_ _));refine zL (cs:=#[.int .i64 0,.int .i64 0,.string (⟨#[]⟩ : ByteArray)]) ?_ 0 _ rfl;(with_reducible repeat (first|refine ze ?_ _|refine zf ?_|refine zg ?_ _));exact BK203.out⟩,⟨by repeat (with_reducible first|exact HB.out|apply za|apply zb|apply zc|refine zd ?_ GE202.out|refine zd ?_ GE203.out)⟩⟩
   rw [if_neg c20] at H;have c20b0 : ((wrap64 (bt a0 0)) == 2)=false:=zY.mpr c20;have c20b1 : ((wrap64 (bt a0 0)) != 2)=true:=zZ.mpr c20;have HC21:=zh H;clear H
   go_upto_if 28 with (fail)
   go_cut [28] (fun v28 wc => ∃ (kq : Nat) (x28_20 : Bool),v28 = .bool x28_20∧Aside0 (spec_l01Next.j0 kq a0 x28_20 (wrap64 (bt a0 0)) 0 (⟨#[]⟩ : ByteArray)=some (r1,r2,r3,r4,r5))∧Aside0 (kq≤k)∧Aside0 (wc.heap[gb202]? = some (.cells #[.int .i64 0,.int .i64 0,.string (⟨#[]⟩ : ByteArray)] 39 (0,0)))∧Aside0 (wc.heap[gb203]? = some (.cells #[.int .i64 (wrap64 (bt a0 0)),.int .i64 0,.string (⟨#[]⟩ : ByteArray)] 39 (0,0)))∧Aside0 (Below w.heap.size w wc))
   case first =>
    have H:=HC21.out;clear HC21
    by_cases c22 : (wrap64 (bt a0 0))=3
    ·
     rw [if_pos c22] at H
     have c22b0 : ((wrap64 (bt a0 0)) == 3)=true:=ya.mpr c22;have c22b1 : ((wrap64 (bt a0 0)) != 3)=false:=zX.mpr c22;clear c22;(first|rw [c22b0]|(simp only [zG,zH];rw [c22b0])|skip);have H':=zh H;clear H
     go_wp2
     go_meet
     case rel => exact ⟨_,(((wrap64 (bt a0 0)) == 3)),(by first|rfl|(simp;done)|(simp [*];done)),H',⟨by first|omega|exact ye _⟩,⟨by (with_reducible repeat (first|refine ze ?_ _|refine zf ?_|refine zg ?_ _));refine zS ?_ NB202_203.out _;(with_reducible repeat (first|refine ze ?_ _|refine zf ?_|refine zg ?_ _));refine zS ?_ NB202_203.out _;(with_reducible repeat (first|refine ze ?_ _|refine zf ?_|refine zg ?_ _));refine zS ?_ NB202_203.out _;(with_reducible repeat (first|refine ze ?_ _|refine zf ?_|refine zg ?_ _));exact BK202.out⟩,⟨by (with_reducible repeat (first|refine ze ?_ _|refine zf ?_|refine zg ?_ _));refine zL (cs:=#[.int .i64 (wrap64 (bt a0 0)),.int .i64 0,.string (⟨#[]⟩ : ByteArray)]) ?_ 2 _ rfl;(with_reducible repeat (first|refine ze ?_ _|refine zf ?_|refine zg ?_ _));refine zL (cs:=#[.int .i64 (wrap64 (bt a0 0)),.int .i64 0,.string (⟨#[]⟩ : ByteArray)]) ?_ 1 _ rfl;(with_reducible repeat (first|refine ze ?_ _|refine zf ?_|refine zg ?_ _));refine zL (cs:=#[.int .i64 0,.int .i64 0,.string (⟨#[]⟩ : ByteArray)]) ?_ 0 _ rfl;(with_reducible repeat (first|refine ze ?_ _|refine zf ?_|refine zg ?_ _));exact BK203.out⟩,⟨by repeat (with_reducible first|exact HB.out|apply za|apply zb|apply zc|refine zd ?_ GE202.out|refine zd ?_ GE203.out)⟩⟩
    rw [if_neg c22] at H;have c22b0 : ((wrap64 (bt a0 0)) == 3)=false:=zY.mpr c22;have c22b1 : ((wrap64 (bt a0 0)) != 3)=true:=zZ.mpr c22;(first|rw [c22b0]|(simp only [zG,zH];rw [c22b0])|skip)
    by_cases c23 : (wrap64 (bt a0 0))=4
    ·
     rw [if_pos c23] at H
     have c23b0 : ((wrap64 (bt a0 0)) == 4)=true:=ya.mpr c23;have c23b1 : ((wrap64 (bt a0 0)) != 4)=false:=zX.mpr c23;clear c23;have H':=zh H;clear H
     go_wp2
     go_meet
     case rel => exact ⟨_,(((wrap64 (bt a0 0)) == 4)),(by first|rfl|(simp;done)|(simp [*];done)),H',⟨by first|omega|exact ye _⟩,⟨by (with_reducible repeat (first|refine ze ?_ _|refine zf ?_|refine zg ?_ _));refine zS ?_ NB202_203.out _;(with_reducible repeat (first|refine ze ?_ _|refine zf ?_|refine zg ?_ _));refine zS ?_ NB202_203.out _;(with_reducible repeat (first|refine ze ?_ _|refine zf ?_|refine zg ?_ _));refine zS ?_ NB202_203.out _;(with_reducible repeat (first|refine ze ?_ _|refine zf ?_|refine zg ?_ _));exact BK202.out⟩,⟨by (with_reducible repeat (first|refine ze ?_ _|refine zf ?_|refine zg ?_ _));refine zL (cs:=#[.int .i64 (wrap64 (bt a0 0)),.int .i64 0,.string (⟨#[]⟩ : ByteArray)]) ?_ 2 _ rfl;(with_reducible repeat (first|refine ze ?_ _|refine zf ?_|refine zg ?_ _));refine zL (cs:=#[.int .i64 (wrap64 (bt a0 0)),.int .i64 0,.string (⟨#[]⟩ : ByteArray)]) ?_ 1 _ rfl;(with_reducible repeat (first|refine ze ?_ _|refine zf ?_|refine zg ?_ _));refine zL (cs:=#[.int .i64 0,.int .i64 0,.string (⟨#[]⟩ : ByteArray)]) ?_ 0 _ rfl;(with_reducible repeat (first|refine ze ?_ _|refine zf ?_|refine zg ?_ _));exact BK203.out⟩,⟨by repeat (with_reducible first|exact HB.out|apply za|apply zb|apply zc|refine zd ?_ GE202.out|refine zd ?_ GE203.out)⟩⟩
    rw [if_neg c23] at H;have c23b0 : ((wrap64 (bt a0 0)) == 4)=false:=zY.mpr c23;have c23b1 : ((wrap64 (bt a0 0)) != 4)=true:=zZ.mpr c23;have H':=zh H;clear H
    go_wp2
    go_meet
    case rel => exact ⟨_,(((wrap64 (bt a0 0)) == 5)),(by first|rfl|(simp;done)|(simp [*];done)),H',⟨by first|omega|exact ye _⟩,⟨by (with_reducible repeat (first|refine ze ?_ _|refine zf ?_|refine zg ?_ _));refine zS ?_ NB202_203.out _;(with_reducible repeat (first|refine ze ?_ _|refine zf ?_|refine zg ?_ _));refine zS ?_ NB202_203.out _;(with_reducible repeat (first|refine ze ?_ _|refine zf ?_|refine zg ?_ _));refine zS ?_ NB202_203.out _;(with_reducible repeat (first|refine ze ?_ _|refine zf ?_|refine zg ?_ _));exact BK202.out⟩,⟨by (with_reducible repeat (first|refine ze ?_ _|refine zf ?_|refine zg ?_ _));refine zL (cs:=#[.int .i64 (wrap64 (bt a0 0)),.int .i64 0,.string (⟨#[]⟩ : ByteArray)]) ?_ 2 _ rfl;(with_reducible repeat (first|refine ze ?_ _|refine zf ?_|refine zg ?_ _));refine zL (cs:=#[.int .i64 (wrap64 (bt a0 0)),.int .i64 0,.string (⟨#[]⟩ : ByteArray)]) ?_ 1 _ rfl;(with_reducible repeat (first|refine ze ?_ _|refine zf ?_|refine zg ?_ _));refine zL (cs:=#[.int .i64 0,.int .i64 0,.string (⟨#[]⟩ : ByteArray)]) ?_ 0 _ rfl;(with_reducible repeat (first|refine ze ?_ _|refine zf ?_|refine zg ?_ _));exact BK203.out⟩,⟨by repeat (with_reducible first|exact HB.out|apply za|apply zb|apply zc|refine zd ?_ GE202.out|refine zd ?_ GE203.out)⟩⟩
   case rest =>
    clear HC21
    try clear c1
    try clear c2
    try clear c2b0
    try clear c2b1
    try clear p2
    try clear c5
    try clear c5b0
    try clear c5b1
    try clear p6
    try clear q6
    try clear hx6
    try clear qi6
    try clear c8
    try clear c10
    try clear c12
    try clear c12b0
    try clear c12b1
    try clear c13
    try clear c13b0
    try clear c13b1
    try clear c19
    try clear c19b0
    try clear c19b1
    try clear c20
    try clear c20b0
    try clear c20b1
    try clear c22
    try clear c22b0
    try clear c22b1
    try clear c23
    try clear c23b0
    try clear c23b1
    try clear hcz11_0
    try clear hcz11_1
    try clear hcz11_2
    try clear hcz4_0
    try clear hcz4_1
    try clear hcz4_2
    try clear hfz11_0
    try clear hfz11_1
    try clear hfz11_2
    try clear hfz4_0
    try clear hfz4_1
    try clear hfz4_2
    try clear p6
    try clear q6
    obtain ⟨kq,x28_20,rfl,HA,HJ20,BK202,BK203,HB⟩:=hcut
    cases kq with
    | zero => exact absurd HA.out (by simp [spec_l01Next.j0])
    | succ kj20 =>
     have H:=HA.out;clear HA;simp only [spec_l01Next.j0] at H
     by_cases c24 : x28_20=true
     ·
      subst c24
      have H1 : (if (a0.size : Int)<3 then (some (0,0,(⟨#[]⟩ : ByteArray),(⟨#[]⟩ : ByteArray),false)) else (if 1≤3 then (if 3≤(a0.size : Int) then ((spec_l01Of.f kj20 (a0.extract 1 3)).bind fun t204 => (if (a0.size : Int)<(wrap64 (3 + t204)) then (some (0,0,(⟨#[]⟩ : ByteArray),(⟨#[]⟩ : ByteArray),false)) else (if 3≤(wrap64 (3 + t204)) then (if (wrap64 (3 + t204))≤(a0.size : Int) then (if 0≤(wrap64 (3 + t204)) then (some ((wrap64 (bt a0 0)),0,a0.extract 3 ((wrap64 (3 + t204)) : Int).toNat,a0.extract ((wrap64 (3 + t204)) : Int).toNat a0.size,true)) else (none)) else (none)) else (none)))) else (none)) else (none)))=some (r1,r2,r3,r4,r5):=by rw [if_pos rfl] at H;exact H
      clear H;have H:=H1;clear H1
      by_cases c25 : (a0.size : Int)<3
      ·
       rw [if_pos c25] at H
       have c25b0 : decide ((a0.size : Int)<3)=true:=decide_eq_true c25;have c25b1 : decide (a0.size<3)=true:=decide_eq_true (by omega);clear c25;simp only [Option.some.injEq,Prod.mk.injEq] at H;obtain ⟨rfl,rfl,rfl,rfl,rfl⟩:=H;have hnb26:=NB202_203.out;have hnc26:=NB203_202.out;have hcz27_0 : wc.cell? ⟨gb202,0,none⟩=some (.int .i64 0):=(zz BK202.out 0).trans rfl;have hcz27_1 : wc.cell? ⟨gb202,1,none⟩=some (.int .i64 0):=(zz BK202.out 1).trans rfl;have hcz27_2 : wc.cell? ⟨gb202,2,none⟩=some (.string (⟨#[]⟩ : ByteArray)):=(zz BK202.out 2).trans rfl;have hfz27_0:=zA BK202.out 0;have hfz27_1:=zA BK202.out 1;have hfz27_2:=zA BK202.out 2
       go_wp2
       refine bodyPost_ret (results_ctt rfl _ _ gb202 39 #[.int .i64 0,.int .i64 0,.string (⟨#[]⟩ : ByteArray)] (0,0) _ rfl (by (with_reducible repeat (first|refine ze ?_ _|refine zf ?_|refine zg ?_ _));refine zL (cs:=#[.int .i64 0,.int .i64 0,.string (⟨#[]⟩ : ByteArray)]) ?_ 2 _ rfl;(with_reducible repeat (first|refine ze ?_ _|refine zf ?_|refine zg ?_ _));refine zL (cs:=#[.int .i64 0,.int .i64 0,.string (⟨#[]⟩ : ByteArray)]) ?_ 1 _ rfl;(with_reducible repeat (first|refine ze ?_ _|refine zf ?_|refine zg ?_ _));refine zL (cs:=#[.int .i64 0,.int .i64 0,.string (⟨#[]⟩ : ByteArray)]) ?_ 0 _ rfl;(with_reducible repeat (first|refine ze ?_ _|refine zf ?_|refine zg ?_ _));exact BK202.out) Tryd.underlying39 rfl (by kernel_rfl)) rfl ?_;exact ⟨by first|rfl|(simp [yt,yu] <;> rfl)|(simp [*,yt,yu] <;> rfl),by repeat (with_reducible first|exact HB.out|apply za|apply zb|apply zc|refine zd ?_ GE202.out|refine zd ?_ GE203.out)⟩
      rw [if_neg c25] at H;have c25b0 : decide ((a0.size : Int)<3)=false:=decide_eq_false c25;have c25b1 : decide (a0.size<3)=false:=decide_eq_false (by omega);clear c25
      by_cases c28 : 1≤3
      ·
       rw [if_pos c28] at H
       have c28b0:=eq_true c28;have c28b1 : decide (1≤3)=true:=decide_eq_true c28;clear c28
       by_cases c29 : 3≤(a0.size : Int)
       ·
        rw [if_pos c29] at H
        have c29b0:=eq_true c29;have c29b1 : decide (3≤(a0.size : Int))=true:=decide_eq_true c29;clear c29;replace H:=zT.mp H;obtain ⟨t204,A300,H⟩:=H;replace H : (if (a0.size : Int)<(wrap64 (3 + t204)) then (some (0,0,(⟨#[]⟩ : ByteArray),(⟨#[]⟩ : ByteArray),false)) else (if 3≤(wrap64 (3 + t204)) then (if (wrap64 (3 + t204))≤(a0.size : Int) then (if 0≤(wrap64 (3 + t204)) then (some ((wrap64 (bt a0 0)),0,a0.extract 3 ((wrap64 (3 + t204)) : Int).toNat,a0.extract ((wrap64 (3 + t204)) : Int).toNat a0.size,true)) else (none)) else (none)) else (none)))=some (r1,r2,r3,r4,r5):=H;have A30:=zh A300;clear A300
        by_cases c31 : (a0.size : Int)<(wrap64 (3 + t204))
        ·
         rw [if_pos c31] at H
         have c31b0 : decide ((a0.size : Int)<(wrap64 (3 + t204)))=true:=decide_eq_true c31;clear c31;simp only [Option.some.injEq,Prod.mk.injEq] at H;obtain ⟨rfl,rfl,rfl,rfl,rfl⟩:=H
         go_wp2_with (first|((with_reducible refine zJ (f:=88) rfl ?_);refine yj (some 38) rfl rfl Tryd.func88 (by kernel_rfl) rfl #[.string (a0.extract 1 3)] rfl (by (try simp only [zt,zu,zv]);first|done|rfl|(simp only [zw,zx];rfl)|(simp only [yr,ys,zV,zW];rfl)) ?_;(with_reducible refine (spec_l01Of.calls kj20  (a0.extract 1 3) t204 _ A30.out).mono ?_);rintro e w' ⟨rfl,⟨nd,rfl⟩⟩;refine ⟨_,rfl,?_⟩;(try (rw [drewN_self wc];generalize hq_ : World.drewN wc _=wc;replace BK202 : Aside0 (wc.heap[gb202]? = some (.cells #[.int .i64 0,.int .i64 0,.string (⟨#[]⟩ : ByteArray)] 39 (0,0))):=⟨by rw [← hq_];exact (by (with_reducible repeat (first|refine ze ?_ _|refine zf ?_|refine zg ?_ _));exact BK202.out)⟩;replace BK203 : Aside0 (wc.heap[gb203]? = some (.cells #[.int .i64 (wrap64 (bt a0 0)),.int .i64 0,.string (⟨#[]⟩ : ByteArray)] 39 (0,0))):=⟨by rw [← hq_];exact (by (with_reducible repeat (first|refine ze ?_ _|refine zf ?_|refine zg ?_ _));exact BK203.out)⟩;replace HB : Aside0 (Below w.heap.size w wc):=⟨by rw [← hq_];exact (by repeat (with_reducible first|exact HB.out|apply za|apply zb|apply zc|refine zd ?_ GE202.out|refine zd ?_ GE203.out))⟩;clear hq_));have hnb32:=NB202_203.out;have hnc32:=NB203_202.out;have hcz33_0 : wc.cell? ⟨gb202,0,none⟩=some (.int .i64 0):=(zz BK202.out 0).trans rfl;have hcz33_1 : wc.cell? ⟨gb202,1,none⟩=some (.int .i64 0):=(zz BK202.out 1).trans rfl;have hcz33_2 : wc.cell? ⟨gb202,2,none⟩=some (.string (⟨#[]⟩ : ByteArray)):=(zz BK202.out 2).trans rfl;have hfz33_0:=zA BK202.out 0;have hfz33_1:=zA BK202.out 1;have hfz33_2:=zA BK202.out 2))
         refine bodyPost_ret (results_ctt rfl _ _ gb202 39 #[.int .i64 0,.int .i64 0,.string (⟨#[]⟩ : ByteArray)] (0,0) _ rfl (by (with_reducible repeat (first|refine ze ?_ _|refine zf ?_|refine zg ?_ _));refine zL (cs:=#[.int .i64 0,.int .i64 0,.string (⟨#[]⟩ : ByteArray)]) ?_ 2 _ rfl;(with_reducible repeat (first|refine ze ?_ _|refine zf ?_|refine zg ?_ _));refine zL (cs:=#[.int .i64 0,.int .i64 0,.string (⟨#[]⟩ : ByteArray)]) ?_ 1 _ rfl;(with_reducible repeat (first|refine ze ?_ _|refine zf ?_|refine zg ?_ _));refine zL (cs:=#[.int .i64 0,.int .i64 0,.string (⟨#[]⟩ : ByteArray)]) ?_ 0 _ rfl;(with_reducible repeat (first|refine ze ?_ _|refine zf ?_|refine zg ?_ _));exact BK202.out) Tryd.underlying39 rfl (by kernel_rfl)) rfl ?_;exact ⟨by first|rfl|(simp [yt,yu] <;> rfl)|(simp [*,yt,yu] <;> rfl),by repeat (with_reducible first|exact HB.out|apply za|apply zb|apply zc|refine zd ?_ GE202.out|refine zd ?_ GE203.out)⟩
        rw [if_neg c31] at H;have c31b0 : decide ((a0.size : Int)<(wrap64 (3 + t204)))=false:=decide_eq_false c31;clear c31
        by_cases c34 : 3≤(wrap64 (3 + t204))
        ·
         rw [if_pos c34] at H
         have c34b0:=eq_true c34;have c34b1 : decide (3≤(wrap64 (3 + t204)))=true:=decide_eq_true c34
         by_cases c35 : (wrap64 (3 + t204))≤(a0.size : Int)
         ·
          rw [if_pos c35] at H
          have c35b0:=eq_true c35;have c35b1 : decide ((wrap64 (3 + t204))≤(a0.size : Int))=true:=decide_eq_true c35;obtain ⟨ji36,hji36⟩ : ∃ j_ : Int,(wrap64 (3 + t204))=j_:=⟨_,rfl⟩;replace H : (if 0≤(ji36) then (some ((wrap64 (bt a0 0)),0,a0.extract 3 ((ji36) : Int).toNat,a0.extract ((ji36) : Int).toNat a0.size,true)) else (none))=some (r1,r2,r3,r4,r5):=by first|(rw [hji36] at H;exact H)|(simp only [hji36] at H ⊢;exact H)
          (try rw [hji36] at c31b0);(try rw [hji36] at c34b0);(try rw [hji36] at c34b1);(try rw [hji36] at c34);(try rw [hji36] at c35b0);(try rw [hji36] at c35b1);(try rw [hji36] at c35);(try rw [hji36] at A30);have hji36w : (IntKind.i64.wrap (3 + t204))=ji36:=(zG _).trans hji36
          by_cases c37 : 0≤(ji36)
          ·
           rw [if_pos c37] at H
           have c37b0:=eq_true c37;have c37b1 : decide (0≤(ji36))=true:=decide_eq_true c37;clear c37;have c38b0:=eq_true (zy (by first|(with_reducible assumption)|assumption) : (ji36)≤(a0.size : Int));simp only [Option.some.injEq,Prod.mk.injEq] at H;obtain ⟨rfl,rfl,rfl,rfl,rfl⟩:=H
           try go_wp2_with (first|((with_reducible refine zJ (f:=88) rfl ?_);refine yj (some 38) rfl rfl Tryd.func88 (by kernel_rfl) rfl #[.string (a0.extract 1 3)] rfl (by (try simp only [zt,zu,zv]);first|done|rfl|(simp only [zw,zx];rfl)|(simp only [yr,ys,zV,zW];rfl)) ?_;(with_reducible refine (spec_l01Of.calls kj20  (a0.extract 1 3) t204 _ A30.out).mono ?_);rintro e w' ⟨rfl,⟨nd,rfl⟩⟩;refine ⟨_,rfl,?_⟩;(try (rw [drewN_self wc];generalize hq_ : World.drewN wc _=wc;replace BK202 : Aside0 (wc.heap[gb202]? = some (.cells #[.int .i64 0,.int .i64 0,.string (⟨#[]⟩ : ByteArray)] 39 (0,0))):=⟨by rw [← hq_];exact (by (with_reducible repeat (first|refine ze ?_ _|refine zf ?_|refine zg ?_ _));exact BK202.out)⟩;replace BK203 : Aside0 (wc.heap[gb203]? = some (.cells #[.int .i64 (wrap64 (bt a0 0)),.int .i64 0,.string (⟨#[]⟩ : ByteArray)] 39 (0,0))):=⟨by rw [← hq_];exact (by (with_reducible repeat (first|refine ze ?_ _|refine zf ?_|refine zg ?_ _));exact BK203.out)⟩;replace HB : Aside0 (Below w.heap.size w wc):=⟨by rw [← hq_];exact (by repeat (with_reducible first|exact HB.out|apply za|apply zb|apply zc|refine zd ?_ GE202.out|refine zd ?_ GE203.out))⟩;clear hq_));have hnb39:=NB203_202.out;have hnc39:=NB202_203.out;have hcz40_0 : wc.cell? ⟨gb203,0,none⟩=some (.int .i64 (wrap64 (bt a0 0))):=(zz BK203.out 0).trans rfl;have hcz40_1 : wc.cell? ⟨gb203,1,none⟩=some (.int .i64 0):=(zz BK203.out 1).trans rfl;have hcz40_2 : wc.cell? ⟨gb203,2,none⟩=some (.string (⟨#[]⟩ : ByteArray)):=(zz BK203.out 2).trans rfl;have hfz40_0:=zA BK203.out 0;have hfz40_1:=zA BK203.out 1;have hfz40_2:=zA BK203.out 2))
           have n0_ : Aside0 ((wc.setCell ⟨gb203,2,none⟩ (.string (a0.extract 3 ((ji36) : Int).toNat))).heap[gb202]? = some (.cells #[.int .i64 0,.int .i64 0,.string (⟨#[]⟩ : ByteArray)] 39 (0,0))):=⟨by (with_reducible repeat (first|refine ze ?_ _|refine zf ?_|refine zg ?_ _));refine zS ?_ NB202_203.out _;(with_reducible repeat (first|refine ze ?_ _|refine zf ?_|refine zg ?_ _));exact BK202.out⟩;have n1_ : Aside0 ((wc.setCell ⟨gb203,2,none⟩ (.string (a0.extract 3 ((ji36) : Int).toNat))).heap[gb203]? = some (.cells #[.int .i64 (wrap64 (bt a0 0)),.int .i64 0,.string (a0.extract 3 ((ji36) : Int).toNat)] 39 (0,0))):=⟨by (with_reducible repeat (first|refine ze ?_ _|refine zf ?_|refine zg ?_ _));refine zL (cs:=#[.int .i64 (wrap64 (bt a0 0)),.int .i64 0,.string (⟨#[]⟩ : ByteArray)]) ?_ 2 _ rfl;(with_reducible repeat (first|refine ze ?_ _|refine zf ?_|refine zg ?_ _));exact BK203.out⟩;have n2_ : Aside0 (Below w.heap.size w (wc.setCell ⟨gb203,2,none⟩ (.string (a0.extract 3 ((ji36) : Int).toNat)))):=⟨by repeat (with_reducible first|exact HB.out|apply za|apply zb|apply zc|refine zd ?_ GE202.out|refine zd ?_ GE203.out)⟩;(try clear BK202);(try clear BK203);(try clear HB);generalize (wc.setCell ⟨gb203,2,none⟩ (.string (a0.extract 3 ((ji36) : Int).toNat)))=w41 at n0_ n1_ n2_ ⊢;have BK202:=n0_;have BK203:=n1_;have HB:=n2_;clear n0_ n1_ n2_;replace BK202:=zh (zf BK202.out);replace BK203:=zh (zf BK203.out);replace HB:=zh (zc HB.out);refine start_ (n:=8) (S:=fun w' => w'.cell? ⟨gb203,0,none⟩=some (.int .i64 (wrap64 (bt a0 0)))∧w'.cell? ⟨gb203,1,none⟩=some (.int .i64 0)∧w'.cell? ⟨gb203,2,none⟩=some (.string (a0.extract 3 ((ji36) : Int).toNat))) (ds:=[]) (bm_ 0 8) (by kernel_rfl) rfl rfl ⟨(zz BK203.out 0).trans rfl,(zz BK203.out 1).trans rfl,(zz BK203.out 2).trans rfl⟩ (fun hHeld => ?_);refine with_tabW spec_l01Next.tab22 spec_l01Next.bits22 (fun HT_ HW_ => ?_);generalize w41.drew=w42 at BK202 BK203 HB hHeld ⊢;refine pure_ (i:=1) (N:=some 51) (v:=?_) (a':=?_) #[false,true,false,false,false,false,false,false] rfl rfl (any_of HT_.out (by kernel_rfl)) (fun _ _ _ h => h) (Or.inl ⟨by rfl,?_⟩) ?_ ?_;rotate_left
           ·
            intro w'
            go_simp
            with_reducible rfl
           rotate_left
           ·
            simp only [Act.put,zi,zj,zk,zG,zH]
            rfl
           refine pure_ (i:=2) (N:=some 52) (v:=?_) (a':=?_) #[false,true,true,false,false,false,false,false] rfl rfl (any_of HT_.out (by kernel_rfl)) (fun _ _ _ h => h) (Or.inl ⟨by rfl,?_⟩) ?_ ?_;rotate_left
           ·
            intro w'
            go_simp
            with_reducible rfl
           rotate_left
           ·
            simp only [Act.put,zi,zj,zk,zG,zH]
            rfl
           refine pure_ (i:=3) (N:=some 53) (v:=?_) (a':=?_) #[false,true,true,true,false,false,false,false] rfl rfl (any_of HT_.out (by kernel_rfl)) (fun _ _ _ h => h) (Or.inl ⟨by rfl,?_⟩) ?_ ?_;rotate_left
           ·
            intro w'
            go_simp
            with_reducible rfl
           rotate_left
           ·
            simp only [Act.put,zi,zj,zk,zG,zH]
            rfl
           refine pure_ (i:=4) (N:=some 54) (v:=?_) (a':=?_) #[false,true,true,true,true,false,false,false] rfl rfl (any_of HT_.out (by kernel_rfl)) (fun _ _ _ h => h) (Or.inl ⟨by rfl,?_⟩) ?_ ?_;rotate_left
           ·
            intro w'
            go_simp
            with_reducible rfl
           rotate_left
           ·
            simp only [Act.put,zi,zj,zk,zG,zH]
            rfl
           refine take_ (i:=0) (N:=some 50) (v:=?_) (a':=?_) (bm_ 5 8) rfl rfl (yo HT_.out HW_.out (by kernel_rfl)) (fun _ _ _ h => h) (Or.inl ⟨by rfl,?_⟩) hHeld ?_ ?_;rotate_left
           ·
            rintro w' ⟨s0,s1,s2⟩
            go_simp
            with_reducible rfl
           rotate_left
           ·
            simp only [Act.put,zi,zj,zk,zG,zH]
            rfl
           refine one_ (i:=5) (N:=none) (bm_ 6 8) rfl rfl (one_of HT_.out (by kernel_rfl)) (by decide) (fun K hK => ?_);have hs43 : w42.cell? ⟨gb202,0,none⟩=some (.int .i64 0):=(zz BK202.out 0).trans rfl;have hfs43:=zA BK202.out 0;have hns43_1:=NB203_202.out;have hms43_1:=NB202_203.out;have hs44 : w42.cell? ⟨gb202,1,none⟩=some (.int .i64 0):=(zz BK202.out 1).trans rfl;have hfs44:=zA BK202.out 1;have hns44_1:=NB203_202.out;have hms44_1:=NB202_203.out;have hs45 : w42.cell? ⟨gb202,2,none⟩=some (.string (⟨#[]⟩ : ByteArray)):=(zz BK202.out 2).trans rfl;have hfs45:=zA BK202.out 2;have hns45_1:=NB203_202.out;have hms45_1:=NB202_203.out;refine skip_ (w1:=?_) (by rfl) rfl ?_ ?_;rotate_left
           ·
            go_simp
            rfl
           refine hK.out _ _ ⟨((zR (p:=⟨gb202,_,none⟩) NB203_202.out _).trans (((zR (p:=⟨gb202,_,none⟩) NB203_202.out _).trans (((zR (p:=⟨gb202,_,none⟩) NB203_202.out _).trans (hHeld.1)))))),((zR (p:=⟨gb202,_,none⟩) NB203_202.out _).trans (((zR (p:=⟨gb202,_,none⟩) NB203_202.out _).trans (((zR (p:=⟨gb202,_,none⟩) NB203_202.out _).trans (hHeld.2.1)))))),((zR (p:=⟨gb202,_,none⟩) NB203_202.out _).trans (((zR (p:=⟨gb202,_,none⟩) NB203_202.out _).trans (((zR (p:=⟨gb202,_,none⟩) NB203_202.out _).trans (hHeld.2.2))))))⟩ (fun hHeld => ?_);clear hK K;refine pure_ (i:=6) (N:=some 3) (v:=?_) (a':=?_) (bm_ 7 8) rfl rfl (any_of HT_.out (by kernel_rfl)) (fun _ _ _ h => h) (Or.inl ⟨by rfl,?_⟩) ?_ ?_;rotate_left
           ·
            intro w'
            go_simp
            with_reducible rfl
           rotate_left
           ·
            simp only [Act.put,zi,zj,zk,zG,zH]
            rfl
           refine pure_ (i:=7) (N:=some 4) (v:=?_) (a':=?_) (bm_ 8 8) rfl rfl (any_of HT_.out (by kernel_rfl)) (fun _ _ _ h => h) (Or.inl ⟨by rfl,?_⟩) ?_ ?_;rotate_left
           ·
            intro w'
            go_simp
            with_reducible rfl
           rotate_left
           ·
            simp only [Act.put,zi,zj,zk,zG,zH]
            rfl
           refine done_ (done_of HT_.out (by kernel_rfl)) ?_
           try go_wp2
           refine bodyPost_ret (results_ctt rfl _ _ gb202 39 #[.int .i64 (wrap64 (bt a0 0)),.int .i64 0,.string (a0.extract 3 ((ji36) : Int).toNat)] (0,0) _ rfl (by (with_reducible repeat (first|refine ze ?_ _|refine zf ?_|refine zg ?_ _));refine zL (cs:=#[.int .i64 (wrap64 (bt a0 0)),.int .i64 0,.string (⟨#[]⟩ : ByteArray)]) ?_ 2 _ rfl;(with_reducible repeat (first|refine ze ?_ _|refine zf ?_|refine zg ?_ _));refine zL (cs:=#[.int .i64 (wrap64 (bt a0 0)),.int .i64 0,.string (⟨#[]⟩ : ByteArray)]) ?_ 1 _ rfl;(with_reducible repeat (first|refine ze ?_ _|refine zf ?_|refine zg ?_ _));refine zL (cs:=#[.int .i64 0,.int .i64 0,.string (⟨#[]⟩ : ByteArray)]) ?_ 0 _ rfl;(with_reducible repeat (first|refine ze ?_ _|refine zf ?_|refine zg ?_ _));exact BK202.out) Tryd.underlying39 rfl (by kernel_rfl)) rfl ?_;exact ⟨by first|rfl|(simp [yt,yu] <;> rfl)|(simp only [← hji36];first|rfl|(simp [yt,yu] <;> rfl))|(simp [*,yt,yu] <;> rfl),by repeat (with_reducible first|exact HB.out|apply za|apply zb|apply zc|refine zd ?_ GE202.out|refine zd ?_ GE203.out)⟩
          rw [if_neg c37] at H;exact absurd H (by simp)
         rw [if_neg c35] at H;exact absurd H (by simp)
        rw [if_neg c34] at H;exact absurd H (by simp)
       rw [if_neg c29] at H;exact absurd H (by simp)
      rw [if_neg c28] at H;exact absurd H (by simp)
     replace c24:=yb.mpr c24;subst c24;have H1 : (some (0,0,(⟨#[]⟩ : ByteArray),(⟨#[]⟩ : ByteArray),false))=some (r1,r2,r3,r4,r5):=by rw [if_neg (show ¬ (false=true) by decide)] at H;exact H
     clear H;have H:=H1;clear H1;simp only [Option.some.injEq,Prod.mk.injEq] at H;obtain ⟨rfl,rfl,rfl,rfl,rfl⟩:=H;have hnb46:=NB202_203.out;have hnc46:=NB203_202.out;have hcz47_0 : wc.cell? ⟨gb202,0,none⟩=some (.int .i64 0):=(zz BK202.out 0).trans rfl;have hcz47_1 : wc.cell? ⟨gb202,1,none⟩=some (.int .i64 0):=(zz BK202.out 1).trans rfl;have hcz47_2 : wc.cell? ⟨gb202,2,none⟩=some (.string (⟨#[]⟩ : ByteArray)):=(zz BK202.out 2).trans rfl;have hfz47_0:=zA BK202.out 0;have hfz47_1:=zA BK202.out 1;have hfz47_2:=zA BK202.out 2
     go_wp2
     refine bodyPost_ret (results_ctt rfl _ _ gb202 39 #[.int .i64 0,.int .i64 0,.string (⟨#[]⟩ : ByteArray)] (0,0) _ rfl (by (with_reducible repeat (first|refine ze ?_ _|refine zf ?_|refine zg ?_ _));refine zL (cs:=#[.int .i64 0,.int .i64 0,.string (⟨#[]⟩ : ByteArray)]) ?_ 2 _ rfl;(with_reducible repeat (first|refine ze ?_ _|refine zf ?_|refine zg ?_ _));refine zL (cs:=#[.int .i64 0,.int .i64 0,.string (⟨#[]⟩ : ByteArray)]) ?_ 1 _ rfl;(with_reducible repeat (first|refine ze ?_ _|refine zf ?_|refine zg ?_ _));refine zL (cs:=#[.int .i64 0,.int .i64 0,.string (⟨#[]⟩ : ByteArray)]) ?_ 0 _ rfl;(with_reducible repeat (first|refine ze ?_ _|refine zf ?_|refine zg ?_ _));exact BK202.out) Tryd.underlying39 rfl (by kernel_rfl)) rfl ?_;exact ⟨by first|rfl|(simp [yt,yu] <;> rfl)|(simp [*,yt,yu] <;> rfl),by repeat (with_reducible first|exact HB.out|apply za|apply zb|apply zc|refine zd ?_ GE202.out|refine zd ?_ GE203.out)⟩
  case rest =>
   clear HC7
   try clear c1
   try clear c2
   try clear c2b0
   try clear c2b1
   try clear p2
   try clear c3
   try clear c4
   try clear c5
   try clear c5b0
   try clear c5b1
   try clear p6
   try clear q6
   try clear hx6
   try clear qi6
   try clear c8
   try clear c10
   try clear c12
   try clear c12b0
   try clear c12b1
   try clear c13
   try clear c13b0
   try clear c13b1
   try clear c19
   try clear c19b0
   try clear c19b1
   try clear c20
   try clear c20b0
   try clear c20b1
   try clear c22
   try clear c22b0
   try clear c22b1
   try clear c23
   try clear c23b0
   try clear c23b1
   try clear c24
   try clear c25
   try clear c25b0
   try clear c25b1
   try clear c26
   try clear c28
   try clear c28b0
   try clear c28b1
   try clear c29
   try clear c29b0
   try clear c29b1
   try clear c31
   try clear c31b0
   try clear c32
   try clear c34
   try clear c34b0
   try clear c34b1
   try clear c35
   try clear c35b0
   try clear c35b1
   try clear c37
   try clear c37b0
   try clear c37b1
   try clear c38
   try clear c38b0
   try clear c39
   try clear c46
   try clear hcz11_0
   try clear hcz11_1
   try clear hcz11_2
   try clear hcz27_0
   try clear hcz27_1
   try clear hcz27_2
   try clear hcz33_0
   try clear hcz33_1
   try clear hcz33_2
   try clear hcz40_0
   try clear hcz40_1
   try clear hcz40_2
   try clear hcz47_0
   try clear hcz47_1
   try clear hcz47_2
   try clear hcz4_0
   try clear hcz4_1
   try clear hcz4_2
   try clear hfz11_0
   try clear hfz11_1
   try clear hfz11_2
   try clear hfz27_0
   try clear hfz27_1
   try clear hfz27_2
   try clear hfz33_0
   try clear hfz33_1
   try clear hfz33_2
   try clear hfz40_0
   try clear hfz40_1
   try clear hfz40_2
   try clear hfz47_0
   try clear hfz47_1
   try clear hfz47_2
   try clear hfz4_0
   try clear hfz4_1
   try clear hfz4_2
   try clear p2
   try clear p6
   try clear q6
   obtain ⟨kq,x6_6,x203000_6,x203001_6,x203002_6,x204002_6,rfl,HA,HJ6,BK202,BK203,HB⟩:=hcut
   cases kq with
   | zero => exact absurd HA.out (by simp [spec_l01Next.j1])
   | succ kj6 =>
    have H:=HA.out;clear HA;simp only [spec_l01Next.j1] at H
    by_cases c48 : (a0.size : Int)<(wrap64 (1 + x6_6))
    ·
     rw [if_pos c48] at H
     have c48b0 : decide ((a0.size : Int)<(wrap64 (1 + x6_6)))=true:=decide_eq_true c48;clear c48;simp only [Option.some.injEq,Prod.mk.injEq] at H;obtain ⟨rfl,rfl,rfl,rfl,rfl⟩:=H;have hnb49:=NB202_203.out;have hnc49:=NB203_202.out;have hcz50_0 : wc.cell? ⟨gb202,0,none⟩=some (.int .i64 x203000_6):=(zz BK202.out 0).trans rfl;have hcz50_1 : wc.cell? ⟨gb202,1,none⟩=some (.int .i64 x203001_6):=(zz BK202.out 1).trans rfl;have hcz50_2 : wc.cell? ⟨gb202,2,none⟩=some (.string x203002_6):=(zz BK202.out 2).trans rfl;have hfz50_0:=zA BK202.out 0;have hfz50_1:=zA BK202.out 1;have hfz50_2:=zA BK202.out 2
     go_wp2
     refine bodyPost_ret (results_ctt rfl _ _ gb202 39 #[.int .i64 0,.int .i64 0,.string (⟨#[]⟩ : ByteArray)] (0,0) _ rfl (by (with_reducible repeat (first|refine ze ?_ _|refine zf ?_|refine zg ?_ _));refine zL (cs:=#[.int .i64 0,.int .i64 0,.string x203002_6]) ?_ 2 _ rfl;(with_reducible repeat (first|refine ze ?_ _|refine zf ?_|refine zg ?_ _));refine zL (cs:=#[.int .i64 0,.int .i64 x203001_6,.string x203002_6]) ?_ 1 _ rfl;(with_reducible repeat (first|refine ze ?_ _|refine zf ?_|refine zg ?_ _));refine zL (cs:=#[.int .i64 x203000_6,.int .i64 x203001_6,.string x203002_6]) ?_ 0 _ rfl;(with_reducible repeat (first|refine ze ?_ _|refine zf ?_|refine zg ?_ _));exact BK202.out) Tryd.underlying39 rfl (by kernel_rfl)) rfl ?_;exact ⟨by first|rfl|(simp [yt,yu] <;> rfl)|(simp [*,yt,yu] <;> rfl),by repeat (with_reducible first|exact HB.out|apply za|apply zb|apply zc|refine zd ?_ GE202.out|refine zd ?_ GE203.out)⟩
    rw [if_neg c48] at H;have c48b0 : decide ((a0.size : Int)<(wrap64 (1 + x6_6)))=false:=decide_eq_false c48;clear c48
    by_cases c51 : x6_6=1
    ·
     rw [if_pos c51] at H
     have c51b0 : (x6_6 == 1)=true:=ya.mpr c51;have c51b1 : (x6_6 != 1)=false:=zX.mpr c51;clear c51
     by_cases c52 : 1<(a0.size : Int)
     ·
      rw [if_pos c52] at H
      have c52b0 : decide (1<(a0.size : Int))=true:=decide_eq_true c52;have c52b1 : decide (1<a0.size)=true:=decide_eq_true (by omega);clear c52;obtain ⟨ji54,hji54⟩ : ∃ j_ : Int,(wrap64 (1 + x6_6))=j_:=⟨_,rfl⟩;replace H : (if 0≤(ji54) then (if (ji54)≤(a0.size : Int) then (some ((wrap64 (bt a0 0)),wrap64 (bt a0 1),x204002_6,a0.extract ((ji54) : Int).toNat a0.size,true)) else (none)) else (none))=some (r1,r2,r3,r4,r5):=by first|(rw [hji54] at H;exact H)|(simp only [hji54] at H ⊢;exact H)
      (try rw [hji54] at c48b0);have hji54w : (IntKind.i64.wrap (1 + x6_6))=ji54:=(zG _).trans hji54
      by_cases c55 : 0≤(ji54)
      ·
       rw [if_pos c55] at H
       have c55b0:=eq_true c55;have c55b1 : decide (0≤(ji54))=true:=decide_eq_true c55;clear c55
       by_cases c56 : (ji54)≤(a0.size : Int)
       ·
        rw [if_pos c56] at H
        have c56b0:=eq_true c56;have c56b1 : decide ((ji54)≤(a0.size : Int))=true:=decide_eq_true c56;clear c56;simp only [Option.some.injEq,Prod.mk.injEq] at H;obtain ⟨rfl,rfl,rfl,rfl,rfl⟩:=H;have p53 : 0≤(1 : Int):=(by omega);have q53 : 1<a0.size:=(by have : (1 : Int)<(a0.size : Int):=zy (by first|(with_reducible assumption)|assumption);omega);have hx53 : ∀ h : 1<a0.size,((a0[1]'h).toNat : Int)=bt a0 1:=bt_at a0 1;clear p53;have qi53 : (1<(a0.size : Int))=True:=eq_true (zy (by first|(with_reducible assumption)|assumption));replace q53:=eq_true q53;have hnb57:=NB203_202.out;have hnc57:=NB202_203.out;have hcz58_0 : wc.cell? ⟨gb203,0,none⟩=some (.int .i64 (wrap64 (bt a0 0))):=(zz BK203.out 0).trans rfl;have hcz58_1 : wc.cell? ⟨gb203,1,none⟩=some (.int .i64 0):=(zz BK203.out 1).trans rfl;have hcz58_2 : wc.cell? ⟨gb203,2,none⟩=some (.string x204002_6):=(zz BK203.out 2).trans rfl;have hfz58_0:=zA BK203.out 0;have hfz58_1:=zA BK203.out 1;have hfz58_2:=zA BK203.out 2
        try go_wp2
        have n0_ : Aside0 ((wc.setCell ⟨gb203,1,none⟩ (.int .i64 (wrap64 (bt a0 1)))).heap[gb202]? = some (.cells #[.int .i64 x203000_6,.int .i64 x203001_6,.string x203002_6] 39 (0,0))):=⟨by (with_reducible repeat (first|refine ze ?_ _|refine zf ?_|refine zg ?_ _));refine zS ?_ NB202_203.out _;(with_reducible repeat (first|refine ze ?_ _|refine zf ?_|refine zg ?_ _));exact BK202.out⟩;have n1_ : Aside0 ((wc.setCell ⟨gb203,1,none⟩ (.int .i64 (wrap64 (bt a0 1)))).heap[gb203]? = some (.cells #[.int .i64 (wrap64 (bt a0 0)),.int .i64 (wrap64 (bt a0 1)),.string x204002_6] 39 (0,0))):=⟨by (with_reducible repeat (first|refine ze ?_ _|refine zf ?_|refine zg ?_ _));refine zL (cs:=#[.int .i64 (wrap64 (bt a0 0)),.int .i64 0,.string x204002_6]) ?_ 1 _ rfl;(with_reducible repeat (first|refine ze ?_ _|refine zf ?_|refine zg ?_ _));exact BK203.out⟩;have n2_ : Aside0 (Below w.heap.size w (wc.setCell ⟨gb203,1,none⟩ (.int .i64 (wrap64 (bt a0 1))))):=⟨by repeat (with_reducible first|exact HB.out|apply za|apply zb|apply zc|refine zd ?_ GE202.out|refine zd ?_ GE203.out)⟩;(try clear BK202);(try clear BK203);(try clear HB);generalize (wc.setCell ⟨gb203,1,none⟩ (.int .i64 (wrap64 (bt a0 1))))=w59 at n0_ n1_ n2_ ⊢;have BK202:=n0_;have BK203:=n1_;have HB:=n2_;clear n0_ n1_ n2_;replace BK202:=zh (zf BK202.out);replace BK203:=zh (zf BK203.out);replace HB:=zh (zc HB.out);refine start_ (n:=8) (S:=fun w' => w'.cell? ⟨gb203,0,none⟩=some (.int .i64 (wrap64 (bt a0 0)))∧w'.cell? ⟨gb203,1,none⟩=some (.int .i64 (wrap64 (bt a0 1)))∧w'.cell? ⟨gb203,2,none⟩=some (.string x204002_6)) (ds:=[]) (bm_ 0 8) (by kernel_rfl) rfl rfl ⟨(zz BK203.out 0).trans rfl,(zz BK203.out 1).trans rfl,(zz BK203.out 2).trans rfl⟩ (fun hHeld => ?_);refine with_tabW spec_l01Next.tab30 spec_l01Next.bits30 (fun HT_ HW_ => ?_);generalize w59.drew=w60 at BK202 BK203 HB hHeld ⊢;refine pure_ (i:=1) (N:=some 77) (v:=?_) (a':=?_) #[false,true,false,false,false,false,false,false] rfl rfl (any_of HT_.out (by kernel_rfl)) (fun _ _ _ h => h) (Or.inl ⟨by rfl,?_⟩) ?_ ?_;rotate_left
        ·
         intro w'
         go_simp
         with_reducible rfl
        rotate_left
        ·
         simp only [Act.put,zi,zj,zk,zG,zH]
         rfl
        refine pure_ (i:=2) (N:=some 78) (v:=?_) (a':=?_) #[false,true,true,false,false,false,false,false] rfl rfl (any_of HT_.out (by kernel_rfl)) (fun _ _ _ h => h) (Or.inl ⟨by rfl,?_⟩) ?_ ?_;rotate_left
        ·
         intro w'
         go_simp
         with_reducible rfl
        rotate_left
        ·
         simp only [Act.put,zi,zj,zk,zG,zH]
         rfl
        refine pure_ (i:=3) (N:=some 79) (v:=?_) (a':=?_) #[false,true,true,true,false,false,false,false] rfl rfl (any_of HT_.out (by kernel_rfl)) (fun _ _ _ h => h) (Or.inl ⟨by rfl,?_⟩) ?_ ?_;rotate_left
        ·
         intro w'
         go_simp
         with_reducible rfl
        rotate_left
        ·
         simp only [Act.put,zi,zj,zk,zG,zH]
         rfl
        refine pure_ (i:=4) (N:=some 80) (v:=?_) (a':=?_) #[false,true,true,true,true,false,false,false] rfl rfl (any_of HT_.out (by kernel_rfl)) (fun _ _ _ h => h) (Or.inl ⟨by rfl,?_⟩) ?_ ?_;rotate_left
        ·
         intro w'
         go_simp
         with_reducible rfl
        rotate_left
        ·
         simp only [Act.put,zi,zj,zk,zG,zH]
         rfl
        refine take_ (i:=0) (N:=some 76) (v:=?_) (a':=?_) (bm_ 5 8) rfl rfl (yo HT_.out HW_.out (by kernel_rfl)) (fun _ _ _ h => h) (Or.inl ⟨by rfl,?_⟩) hHeld ?_ ?_;rotate_left
        ·
         rintro w' ⟨s0,s1,s2⟩
         go_simp
         with_reducible rfl
        rotate_left
        ·
         simp only [Act.put,zi,zj,zk,zG,zH]
         rfl
        refine one_ (i:=5) (N:=none) (bm_ 6 8) rfl rfl (one_of HT_.out (by kernel_rfl)) (by decide) (fun K hK => ?_);have hs61 : w60.cell? ⟨gb202,0,none⟩=some (.int .i64 x203000_6):=(zz BK202.out 0).trans rfl;have hfs61:=zA BK202.out 0;have hns61_1:=NB203_202.out;have hms61_1:=NB202_203.out;have hs62 : w60.cell? ⟨gb202,1,none⟩=some (.int .i64 x203001_6):=(zz BK202.out 1).trans rfl;have hfs62:=zA BK202.out 1;have hns62_1:=NB203_202.out;have hms62_1:=NB202_203.out;have hs63 : w60.cell? ⟨gb202,2,none⟩=some (.string x203002_6):=(zz BK202.out 2).trans rfl;have hfs63:=zA BK202.out 2;have hns63_1:=NB203_202.out;have hms63_1:=NB202_203.out;refine skip_ (w1:=?_) (by rfl) rfl ?_ ?_;rotate_left
        ·
         go_simp
         rfl
        refine hK.out _ _ ⟨((zR (p:=⟨gb202,_,none⟩) NB203_202.out _).trans (((zR (p:=⟨gb202,_,none⟩) NB203_202.out _).trans (((zR (p:=⟨gb202,_,none⟩) NB203_202.out _).trans (hHeld.1)))))),((zR (p:=⟨gb202,_,none⟩) NB203_202.out _).trans (((zR (p:=⟨gb202,_,none⟩) NB203_202.out _).trans (((zR (p:=⟨gb202,_,none⟩) NB203_202.out _).trans (hHeld.2.1)))))),((zR (p:=⟨gb202,_,none⟩) NB203_202.out _).trans (((zR (p:=⟨gb202,_,none⟩) NB203_202.out _).trans (((zR (p:=⟨gb202,_,none⟩) NB203_202.out _).trans (hHeld.2.2))))))⟩ (fun hHeld => ?_);clear hK K;refine pure_ (i:=6) (N:=some 3) (v:=?_) (a':=?_) (bm_ 7 8) rfl rfl (any_of HT_.out (by kernel_rfl)) (fun _ _ _ h => h) (Or.inl ⟨by rfl,?_⟩) ?_ ?_;rotate_left
        ·
         intro w'
         go_simp
         with_reducible rfl
        rotate_left
        ·
         simp only [Act.put,zi,zj,zk,zG,zH]
         rfl
        refine pure_ (i:=7) (N:=some 4) (v:=?_) (a':=?_) (bm_ 8 8) rfl rfl (any_of HT_.out (by kernel_rfl)) (fun _ _ _ h => h) (Or.inl ⟨by rfl,?_⟩) ?_ ?_;rotate_left
        ·
         intro w'
         go_simp
         with_reducible rfl
        rotate_left
        ·
         simp only [Act.put,zi,zj,zk,zG,zH]
         rfl
        refine done_ (done_of HT_.out (by kernel_rfl)) ?_
        try go_wp2
        refine bodyPost_ret (results_ctt rfl _ _ gb202 39 #[.int .i64 (wrap64 (bt a0 0)),.int .i64 (wrap64 (bt a0 1)),.string x204002_6] (0,0) _ rfl (by (with_reducible repeat (first|refine ze ?_ _|refine zf ?_|refine zg ?_ _));refine zL (cs:=#[.int .i64 (wrap64 (bt a0 0)),.int .i64 (wrap64 (bt a0 1)),.string x203002_6]) ?_ 2 _ rfl;(with_reducible repeat (first|refine ze ?_ _|refine zf ?_|refine zg ?_ _));refine zL (cs:=#[.int .i64 (wrap64 (bt a0 0)),.int .i64 x203001_6,.string x203002_6]) ?_ 1 _ rfl;(with_reducible repeat (first|refine ze ?_ _|refine zf ?_|refine zg ?_ _));refine zL (cs:=#[.int .i64 x203000_6,.int .i64 x203001_6,.string x203002_6]) ?_ 0 _ rfl;(with_reducible repeat (first|refine ze ?_ _|refine zf ?_|refine zg ?_ _));exact BK202.out) Tryd.underlying39 rfl (by kernel_rfl)) rfl ?_;exact ⟨by first|rfl|(simp [yt,yu] <;> rfl)|(simp only [← hji54];first|rfl|(simp [yt,yu] <;> rfl))|(simp [*,yt,yu] <;> rfl),by repeat (with_reducible first|exact HB.out|apply za|apply zb|apply zc|refine zd ?_ GE202.out|refine zd ?_ GE203.out)⟩
       rw [if_neg c56] at H;exact absurd H (by simp)
      rw [if_neg c55] at H;exact absurd H (by simp)
     rw [if_neg c52] at H;exact absurd H (by simp)
    rw [if_neg c51] at H;have c51b0 : (x6_6 == 1)=false:=zY.mpr c51;have c51b1 : (x6_6 != 1)=true:=zZ.mpr c51
    by_cases c64 : 1<(a0.size : Int)
    ·
     rw [if_pos c64] at H
     have c64b0 : decide (1<(a0.size : Int))=true:=decide_eq_true c64;have c64b1 : decide (1<a0.size)=true:=decide_eq_true (by omega);clear c64
     by_cases c66 : (bt a0 1) > 127
     ·
      rw [if_pos c66] at H
      have c66b0 : decide (127<(bt a0 1))=true:=decide_eq_true c66;clear c66;simp only [Option.some.injEq,Prod.mk.injEq] at H;obtain ⟨rfl,rfl,rfl,rfl,rfl⟩:=H;have p65 : 0≤(1 : Int):=(by omega);have q65 : 1<a0.size:=(by have : (1 : Int)<(a0.size : Int):=zy (by first|(with_reducible assumption)|assumption);omega);have hx65 : ∀ h : 1<a0.size,((a0[1]'h).toNat : Int)=bt a0 1:=bt_at a0 1;clear p65;have qi65 : (1<(a0.size : Int))=True:=eq_true (zy (by first|(with_reducible assumption)|assumption));replace q65:=eq_true q65;have hnb67:=NB202_203.out;have hnc67:=NB203_202.out;have hcz68_0 : wc.cell? ⟨gb202,0,none⟩=some (.int .i64 x203000_6):=(zz BK202.out 0).trans rfl;have hcz68_1 : wc.cell? ⟨gb202,1,none⟩=some (.int .i64 x203001_6):=(zz BK202.out 1).trans rfl;have hcz68_2 : wc.cell? ⟨gb202,2,none⟩=some (.string x203002_6):=(zz BK202.out 2).trans rfl;have hfz68_0:=zA BK202.out 0;have hfz68_1:=zA BK202.out 1;have hfz68_2:=zA BK202.out 2
      go_wp2
      refine bodyPost_ret (results_ctt rfl _ _ gb202 39 #[.int .i64 0,.int .i64 0,.string (⟨#[]⟩ : ByteArray)] (0,0) _ rfl (by (with_reducible repeat (first|refine ze ?_ _|refine zf ?_|refine zg ?_ _));refine zL (cs:=#[.int .i64 0,.int .i64 0,.string x203002_6]) ?_ 2 _ rfl;(with_reducible repeat (first|refine ze ?_ _|refine zf ?_|refine zg ?_ _));refine zL (cs:=#[.int .i64 0,.int .i64 x203001_6,.string x203002_6]) ?_ 1 _ rfl;(with_reducible repeat (first|refine ze ?_ _|refine zf ?_|refine zg ?_ _));refine zL (cs:=#[.int .i64 x203000_6,.int .i64 x203001_6,.string x203002_6]) ?_ 0 _ rfl;(with_reducible repeat (first|refine ze ?_ _|refine zf ?_|refine zg ?_ _));exact BK202.out) Tryd.underlying39 rfl (by kernel_rfl)) rfl ?_;exact ⟨by first|rfl|(simp [yt,yu] <;> rfl)|(simp [*,yt,yu] <;> rfl),by repeat (with_reducible first|exact HB.out|apply za|apply zb|apply zc|refine zd ?_ GE202.out|refine zd ?_ GE203.out)⟩
     rw [if_neg c66] at H;have c66b0 : decide (127<(bt a0 1))=false:=decide_eq_false c66;clear c66
     by_cases c69 : 1≤9
     ·
      rw [if_pos c69] at H
      have c69b0:=eq_true c69;have c69b1 : decide (1≤9)=true:=decide_eq_true c69;clear c69
      by_cases c70 : 9≤(a0.size : Int)
      ·
       rw [if_pos c70] at H
       have c70b0:=eq_true c70;have c70b1 : decide (9≤(a0.size : Int))=true:=decide_eq_true c70;clear c70;replace H:=zT.mp H;obtain ⟨t205,A710,H⟩:=H;replace H : (if 0≤(wrap64 (1 + x6_6)) then (if (wrap64 (1 + x6_6))≤(a0.size : Int) then (some ((wrap64 (bt a0 0)),wrap64 (t205 - 4611686018427387904),x204002_6,a0.extract ((wrap64 (1 + x6_6)) : Int).toNat a0.size,true)) else (none)) else (none))=some (r1,r2,r3,r4,r5):=H;have A71:=zh A710;clear A710;obtain ⟨ji72,hji72⟩ : ∃ j_ : Int,(wrap64 (1 + x6_6))=j_:=⟨_,rfl⟩;replace H : (if 0≤(ji72) then (if (ji72)≤(a0.size : Int) then (some ((wrap64 (bt a0 0)),wrap64 (t205 - 4611686018427387904),x204002_6,a0.extract ((ji72) : Int).toNat a0.size,true)) else (none)) else (none))=some (r1,r2,r3,r4,r5):=by first|(rw [hji72] at H;exact H)|(simp only [hji72] at H ⊢;exact H)
       (try rw [hji72] at c48b0);(try rw [hji72] at A71);have hji72w : (IntKind.i64.wrap (1 + x6_6))=ji72:=(zG _).trans hji72
       by_cases c73 : 0≤(ji72)
       ·
        rw [if_pos c73] at H
        have c73b0:=eq_true c73;have c73b1 : decide (0≤(ji72))=true:=decide_eq_true c73;clear c73
        by_cases c74 : (ji72)≤(a0.size : Int)
        ·
         rw [if_pos c74] at H
         have c74b0:=eq_true c74;have c74b1 : decide ((ji72)≤(a0.size : Int))=true:=decide_eq_true c74;clear c74;simp only [Option.some.injEq,Prod.mk.injEq] at H;obtain ⟨rfl,rfl,rfl,rfl,rfl⟩:=H;have p65 : 0≤(1 : Int):=(by omega);have q65 : 1<a0.size:=(by have : (1 : Int)<(a0.size : Int):=zy (by first|(with_reducible assumption)|assumption);omega);have hx65 : ∀ h : 1<a0.size,((a0[1]'h).toNat : Int)=bt a0 1:=bt_at a0 1;clear p65;have qi65 : (1<(a0.size : Int))=True:=eq_true (zy (by first|(with_reducible assumption)|assumption));replace q65:=eq_true q65
         try go_wp2_with (first|((with_reducible refine zJ (f:=88) rfl ?_);refine yj (some 73) rfl rfl Tryd.func88 (by kernel_rfl) rfl #[.string (a0.extract 1 9)] rfl (by (try simp only [zt,zu,zv]);first|done|rfl|(simp only [zw,zx];rfl)|(simp only [yr,ys,zV,zW];rfl)) ?_;(with_reducible refine (spec_l01Of.calls kj6  (a0.extract 1 9) t205 _ A71.out).mono ?_);rintro e w' ⟨rfl,⟨nd,rfl⟩⟩;refine ⟨_,rfl,?_⟩;(try (rw [drewN_self wc];generalize hq_ : World.drewN wc _=wc;replace BK202 : Aside0 (wc.heap[gb202]? = some (.cells #[.int .i64 x203000_6,.int .i64 x203001_6,.string x203002_6] 39 (0,0))):=⟨by rw [← hq_];exact (by (with_reducible repeat (first|refine ze ?_ _|refine zf ?_|refine zg ?_ _));exact BK202.out)⟩;replace BK203 : Aside0 (wc.heap[gb203]? = some (.cells #[.int .i64 (wrap64 (bt a0 0)),.int .i64 0,.string x204002_6] 39 (0,0))):=⟨by rw [← hq_];exact (by (with_reducible repeat (first|refine ze ?_ _|refine zf ?_|refine zg ?_ _));exact BK203.out)⟩;replace HB : Aside0 (Below w.heap.size w wc):=⟨by rw [← hq_];exact (by repeat (with_reducible first|exact HB.out|apply za|apply zb|apply zc|refine zd ?_ GE202.out|refine zd ?_ GE203.out))⟩;clear hq_));have hnb75:=NB203_202.out;have hnc75:=NB202_203.out;have hcz76_0 : wc.cell? ⟨gb203,0,none⟩=some (.int .i64 (wrap64 (bt a0 0))):=(zz BK203.out 0).trans rfl;have hcz76_1 : wc.cell? ⟨gb203,1,none⟩=some (.int .i64 0):=(zz BK203.out 1).trans rfl;have hcz76_2 : wc.cell? ⟨gb203,2,none⟩=some (.string x204002_6):=(zz BK203.out 2).trans rfl;have hfz76_0:=zA BK203.out 0;have hfz76_1:=zA BK203.out 1;have hfz76_2:=zA BK203.out 2))
         have n0_ : Aside0 ((wc.setCell ⟨gb203,1,none⟩ (.int .i64 (wrap64 (t205 - 4611686018427387904)))).heap[gb202]? = some (.cells #[.int .i64 x203000_6,.int .i64 x203001_6,.string x203002_6] 39 (0,0))):=⟨by (with_reducible repeat (first|refine ze ?_ _|refine zf ?_|refine zg ?_ _));refine zS ?_ NB202_203.out _;(with_reducible repeat (first|refine ze ?_ _|refine zf ?_|refine zg ?_ _));exact BK202.out⟩;have n1_ : Aside0 ((wc.setCell ⟨gb203,1,none⟩ (.int .i64 (wrap64 (t205 - 4611686018427387904)))).heap[gb203]? = some (.cells #[.int .i64 (wrap64 (bt a0 0)),.int .i64 (wrap64 (t205 - 4611686018427387904)),.string x204002_6] 39 (0,0))):=⟨by (with_reducible repeat (first|refine ze ?_ _|refine zf ?_|refine zg ?_ _));refine zL (cs:=#[.int .i64 (wrap64 (bt a0 0)),.int .i64 0,.string x204002_6]) ?_ 1 _ rfl;(with_reducible repeat (first|refine ze ?_ _|refine zf ?_|refine zg ?_ _));exact BK203.out⟩;have n2_ : Aside0 (Below w.heap.size w (wc.setCell ⟨gb203,1,none⟩ (.int .i64 (wrap64 (t205 - 4611686018427387904))))):=⟨by repeat (with_reducible first|exact HB.out|apply za|apply zb|apply zc|refine zd ?_ GE202.out|refine zd ?_ GE203.out)⟩;(try clear BK202);(try clear BK203);(try clear HB);generalize (wc.setCell ⟨gb203,1,none⟩ (.int .i64 (wrap64 (t205 - 4611686018427387904))))=w77 at n0_ n1_ n2_ ⊢;have BK202:=n0_;have BK203:=n1_;have HB:=n2_;clear n0_ n1_ n2_;replace BK202:=zh (zf BK202.out);replace BK203:=zh (zf BK203.out);replace HB:=zh (zc HB.out);refine start_ (n:=8) (S:=fun w' => w'.cell? ⟨gb203,0,none⟩=some (.int .i64 (wrap64 (bt a0 0)))∧w'.cell? ⟨gb203,1,none⟩=some (.int .i64 (wrap64 (t205 - 4611686018427387904)))∧w'.cell? ⟨gb203,2,none⟩=some (.string x204002_6)) (ds:=[]) (bm_ 0 8) (by kernel_rfl) rfl rfl ⟨(zz BK203.out 0).trans rfl,(zz BK203.out 1).trans rfl,(zz BK203.out 2).trans rfl⟩ (fun hHeld => ?_);refine with_tabW spec_l01Next.tab30 spec_l01Next.bits30 (fun HT_ HW_ => ?_);generalize w77.drew=w78 at BK202 BK203 HB hHeld ⊢;refine pure_ (i:=1) (N:=some 77) (v:=?_) (a':=?_) #[false,true,false,false,false,false,false,false] rfl rfl (any_of HT_.out (by kernel_rfl)) (fun _ _ _ h => h) (Or.inl ⟨by rfl,?_⟩) ?_ ?_;rotate_left
         ·
          intro w'
          go_simp
          with_reducible rfl
         rotate_left
         ·
          simp only [Act.put,zi,zj,zk,zG,zH]
          rfl
         refine pure_ (i:=2) (N:=some 78) (v:=?_) (a':=?_) #[false,true,true,false,false,false,false,false] rfl rfl (any_of HT_.out (by kernel_rfl)) (fun _ _ _ h => h) (Or.inl ⟨by rfl,?_⟩) ?_ ?_;rotate_left
         ·
          intro w'
          go_simp
          with_reducible rfl
         rotate_left
         ·
          simp only [Act.put,zi,zj,zk,zG,zH]
          rfl
         refine pure_ (i:=3) (N:=some 79) (v:=?_) (a':=?_) #[false,true,true,true,false,false,false,false] rfl rfl (any_of HT_.out (by kernel_rfl)) (fun _ _ _ h => h) (Or.inl ⟨by rfl,?_⟩) ?_ ?_;rotate_left
         ·
          intro w'
          go_simp
          with_reducible rfl
         rotate_left
         ·
          simp only [Act.put,zi,zj,zk,zG,zH]
          rfl
         refine pure_ (i:=4) (N:=some 80) (v:=?_) (a':=?_) #[false,true,true,true,true,false,false,false] rfl rfl (any_of HT_.out (by kernel_rfl)) (fun _ _ _ h => h) (Or.inl ⟨by rfl,?_⟩) ?_ ?_;rotate_left
         ·
          intro w'
          go_simp
          with_reducible rfl
         rotate_left
         ·
          simp only [Act.put,zi,zj,zk,zG,zH]
          rfl
         refine take_ (i:=0) (N:=some 76) (v:=?_) (a':=?_) (bm_ 5 8) rfl rfl (yo HT_.out HW_.out (by kernel_rfl)) (fun _ _ _ h => h) (Or.inl ⟨by rfl,?_⟩) hHeld ?_ ?_;rotate_left
         ·
          rintro w' ⟨s0,s1,s2⟩
          go_simp
          with_reducible rfl
         rotate_left
         ·
          simp only [Act.put,zi,zj,zk,zG,zH]
          rfl
         refine one_ (i:=5) (N:=none) (bm_ 6 8) rfl rfl (one_of HT_.out (by kernel_rfl)) (by decide) (fun K hK => ?_);have hs79 : w78.cell? ⟨gb202,0,none⟩=some (.int .i64 x203000_6):=(zz BK202.out 0).trans rfl;have hfs79:=zA BK202.out 0;have hns79_1:=NB203_202.out;have hms79_1:=NB202_203.out;have hs80 : w78.cell? ⟨gb202,1,none⟩=some (.int .i64 x203001_6):=(zz BK202.out 1).trans rfl;have hfs80:=zA BK202.out 1;have hns80_1:=NB203_202.out;have hms80_1:=NB202_203.out;have hs81 : w78.cell? ⟨gb202,2,none⟩=some (.string x203002_6):=(zz BK202.out 2).trans rfl;have hfs81:=zA BK202.out 2;have hns81_1:=NB203_202.out;have hms81_1:=NB202_203.out;refine skip_ (w1:=?_) (by rfl) rfl ?_ ?_;rotate_left
         ·
          go_simp
          rfl
         refine hK.out _ _ ⟨((zR (p:=⟨gb202,_,none⟩) NB203_202.out _).trans (((zR (p:=⟨gb202,_,none⟩) NB203_202.out _).trans (((zR (p:=⟨gb202,_,none⟩) NB203_202.out _).trans (hHeld.1)))))),((zR (p:=⟨gb202,_,none⟩) NB203_202.out _).trans (((zR (p:=⟨gb202,_,none⟩) NB203_202.out _).trans (((zR (p:=⟨gb202,_,none⟩) NB203_202.out _).trans (hHeld.2.1)))))),((zR (p:=⟨gb202,_,none⟩) NB203_202.out _).trans (((zR (p:=⟨gb202,_,none⟩) NB203_202.out _).trans (((zR (p:=⟨gb202,_,none⟩) NB203_202.out _).trans (hHeld.2.2))))))⟩ (fun hHeld => ?_);clear hK K;refine pure_ (i:=6) (N:=some 3) (v:=?_) (a':=?_) (bm_ 7 8) rfl rfl (any_of HT_.out (by kernel_rfl)) (fun _ _ _ h => h) (Or.inl ⟨by rfl,?_⟩) ?_ ?_;rotate_left
         ·
          intro w'
          go_simp
          with_reducible rfl
         rotate_left
         ·
          simp only [Act.put,zi,zj,zk,zG,zH]
          rfl
         refine pure_ (i:=7) (N:=some 4) (v:=?_) (a':=?_) (bm_ 8 8) rfl rfl (any_of HT_.out (by kernel_rfl)) (fun _ _ _ h => h) (Or.inl ⟨by rfl,?_⟩) ?_ ?_;rotate_left
         ·
          intro w'
          go_simp
          with_reducible rfl
         rotate_left
         ·
          simp only [Act.put,zi,zj,zk,zG,zH]
          rfl
         refine done_ (done_of HT_.out (by kernel_rfl)) ?_
         try go_wp2
         refine bodyPost_ret (results_ctt rfl _ _ gb202 39 #[.int .i64 (wrap64 (bt a0 0)),.int .i64 (wrap64 (t205 - 4611686018427387904)),.string x204002_6] (0,0) _ rfl (by (with_reducible repeat (first|refine ze ?_ _|refine zf ?_|refine zg ?_ _));refine zL (cs:=#[.int .i64 (wrap64 (bt a0 0)),.int .i64 (wrap64 (t205 - 4611686018427387904)),.string x203002_6]) ?_ 2 _ rfl;(with_reducible repeat (first|refine ze ?_ _|refine zf ?_|refine zg ?_ _));refine zL (cs:=#[.int .i64 (wrap64 (bt a0 0)),.int .i64 x203001_6,.string x203002_6]) ?_ 1 _ rfl;(with_reducible repeat (first|refine ze ?_ _|refine zf ?_|refine zg ?_ _));refine zL (cs:=#[.int .i64 x203000_6,.int .i64 x203001_6,.string x203002_6]) ?_ 0 _ rfl;(with_reducible repeat (first|refine ze ?_ _|refine zf ?_|refine zg ?_ _));exact BK202.out) Tryd.underlying39 rfl (by kernel_rfl)) rfl ?_;exact ⟨by first|rfl|(simp [yt,yu] <;> rfl)|(simp only [← hji72];first|rfl|(simp [yt,yu] <;> rfl))|(simp [*,yt,yu] <;> rfl),by repeat (with_reducible first|exact HB.out|apply za|apply zb|apply zc|refine zd ?_ GE202.out|refine zd ?_ GE203.out)⟩
        rw [if_neg c74] at H;exact absurd H (by simp)
       rw [if_neg c73] at H;exact absurd H (by simp)
      rw [if_neg c70] at H;exact absurd H (by simp)
     rw [if_neg c69] at H;exact absurd H (by simp)
    rw [if_neg c64] at H;exact absurd H (by simp)
 rw [if_neg c5] at H;exact absurd H (by simp)

end Go.Proofs.YthjgfjlogilleaaDoor.Q
end
section
namespace Go.Proofs.YthjgfjlogilleaaDoor.Q
open Go.RowKit Go.Proofs.YthjgfjlogilleaaDoorW.PrintWords Go.Proofs.YthjgfjlogilleaaDoorW.PrintLast Go.Proofs.YthjgfjlogilleaaDoorW.PrintMore
attribute [local go_sem] max2_int min2_int max_two min_two max_three min_three max_four min_four max2_str min2_str str_geq str_gtr str_leq   -- for this text's walks alone
set_option linter.unusedVariables false
set_option linter.unusedSimpArgs false

def spec_l01Items.l0 : Nat→ByteArray→List (S39)→Option ((List (S39))×Bool)
 | 0,_,_ => none
 | k + 1,x0,x4 => if (x0.size : Int) > 0 then ((spec_l01Next.f k x0).bind fun bt209 => (if bt209.2.2.2.2=true then (if x4.length<4398046511104 then (spec_l01Items.l0 k bt209.2.2.2.1 (x4 ++ [(⟨bt209.1,bt209.2.1,bt209.2.2.1⟩ : S39)])) else (none)) else (some ((([] : List (S39))),false)))) else (some (x4,true))
def spec_l01Items.f (k : Nat) (a0 : ByteArray) : Option ((List (S39))×Bool):=spec_l01Items.l0 k a0 (([] : List (S39)))
theorem spec_l01Items.mono_l : ∀ k,(∀ y0 y1,LeO (spec_l01Items.l0 k y0 y1) (spec_l01Items.l0 (k + 1) y0 y1))
 | 0 => fun _ _ r h => by simp [spec_l01Items.l0] at h
 | k + 1 => by
  have ih0:=spec_l01Items.mono_l k;intro y0 y1;unfold spec_l01Items.l0
  repeat' first|(with_reducible exact ih0 _ _)|(with_reducible exact spec_l01Next.mono _ _)|(with_reducible exact zQ _)|(with_reducible exact zN _)|(with_reducible refine zP ?_ ?_)|(with_reducible refine zO ?_ (fun _ => ?_))|refine zP ?_ ?_|refine zO ?_ (fun _ => ?_)
theorem spec_l01Items.mono : ∀ a0 k,LeO (spec_l01Items.f k a0) (spec_l01Items.f (k + 1) a0):=by
 intro a0 k;have ih0:=spec_l01Items.mono_l k;unfold spec_l01Items.f
 repeat' first|(with_reducible exact ih0 _ _)|(with_reducible exact spec_l01Next.mono _ _)|(with_reducible exact zQ _)|(with_reducible exact zN _)|(with_reducible refine zP ?_ ?_)|(with_reducible refine zO ?_ (fun _ => ?_))|refine zP ?_ ?_|refine zO ?_ (fun _ => ?_)
set_option maxHeartbeats 8000000 in
set_option maxRecDepth 100000 in
theorem spec_l01Items.calls (k : Nat) (a0 : ByteArray) (r1 : List (S39)) (r2 : Bool) (w : World) (h : spec_l01Items.f k a0=some (r1,r2)) :
  Calls Tryd.prog 66 #[.string a0] w fun e w' => ∃ v0_ : Value,e = .returned (.tuple #[v0_,.bool r2])∧Kd.R k39 39 w' w.heap.size (fun _ => True) v0_ r1∧Below w.heap.size w w':=by
 have hu39:=Tryd.underlying39;have HB:=zh (Below.refl w.heap.size w);have H : (spec_l01Items.l0 k a0 (([] : List (S39))))=some (r1,r2):=h;clear h;obtain ⟨y206,hy206⟩ : ∃ y_ : List (S39),y_=(([] : List (S39))):=⟨_,rfl⟩;replace H : (spec_l01Items.l0 k a0 y206)=some (r1,r2):=by first|(rw [hy206];with_reducible exact H)|(have H2_:=(Option.bind_some _ _).symm.trans H;rw [hy206];with_reducible exact H2_)|(have H2_:=(Option.bind_some _ _).symm.trans H;with_reducible exact H2_)|with_reducible exact H|(rw [hy206];exact H)|exact H
 have Ny206:=zh hy206;clear hy206;have H':=zh H;clear H
 go_enter Tryd.func66,Tryd.ntmps66
 go_wp2_with (first|((with_reducible refine zK (N:=8) rfl ?_);refine Kd.R_lit k39 _ 39 ?hg (N:=8) ?hd (xs:=([] : List (S39))) (inner:=[]) (ok:=fun _ => True) (okp:=fun _ => True) ?hr ?hp (fun _ hk => hk) trivial (Below.refl _ _) (ye _) (by simp) ?_;(case hd => rfl);(case hg => rfl);(case hr => first|(go_simp;done)|(go_simp;rfl));(case hp => exact (Reps.none _ _));intro v207 w2 ho3 hb hg_ hnew_;clear hg_ hnew_;(first|rw [← Ny206.out] at ho3|(simp only [Int.reduceToNat] at ho3;rw [← Ny206.out] at ho3));have HO208:=zh (yy ho3 (zB (by repeat (with_reducible first|exact HB.out|apply za|apply zb|apply zc))));replace HB:=zh (zC (by repeat (with_reducible first|exact HB.out|apply za|apply zb|apply zc)) hb);clear hb ho3))
 go_loopg [0,4] k (fun kq v0 v4 w' => ∃ (x0_1 : ByteArray) (x4_1 : List (S39)),v0 = .string x0_1∧Aside0 (spec_l01Items.l0 kq x0_1 x4_1=some (r1,r2))∧Aside0 (kq≤k)∧Aside0 (Kd.R k39 39 w' w.heap.size (fun _ => True) v4 x4_1)∧Aside0 (Below w.heap.size w w'))
 case atStart => exact ⟨(a0),(y206),(by first|rfl|(simp;done)|(simp [*];done)),H',⟨ye _⟩,⟨by (with_reducible repeat (first|apply zm|apply zn|apply zo));exact HO208.out⟩,⟨by repeat (with_reducible first|exact HB.out|apply za|apply zb|apply zc)⟩⟩
 case round =>
  clear H'
  try clear p2
  obtain ⟨x0_1,x4_1,rfl,HA,HK1,HO_4,HB⟩:=hrel
  cases gk with
  | zero => exact absurd HA.out (by simp [spec_l01Items.l0])
  | succ k1 =>
   have H:=HA.out;clear HA;simp only [spec_l01Items.l0] at H
   by_cases c4 : (x0_1.size : Int) > 0
   ·
    rw [if_pos c4] at H
    have c4b0 : decide (0<(x0_1.size : Int))=true:=decide_eq_true c4;have c4b1 : decide (0<x0_1.size)=true:=decide_eq_true (by omega);clear c4;replace H:=zT.mp H;obtain ⟨⟨t209,t210,t211,t212,t213⟩,A50,H⟩:=H;replace H : (if t213=true then (if x4_1.length<4398046511104 then (spec_l01Items.l0 k1 t212 (x4_1 ++ [(⟨t209,t210,t211⟩ : S39)])) else (none)) else (some ((([] : List (S39))),false)))=some (r1,r2):=H;have A5:=zh A50;clear A50
    by_cases c6 : t213=true
    ·
     subst c6
     have H1 : (if x4_1.length<4398046511104 then (spec_l01Items.l0 k1 t212 (x4_1 ++ [(⟨t209,t210,t211⟩ : S39)])) else (none))=some (r1,r2):=by rw [if_pos rfl] at H;exact H
     clear H;have H:=H1;clear H1
     by_cases c7 : x4_1.length<4398046511104
     ·
      rw [if_pos c7] at H
      have LMc7:=zh c7;clear c7;obtain ⟨y215,hy215⟩ : ∃ y_ : List (S39),y_=(x4_1 ++ [(⟨t209,t210,t211⟩ : S39)]):=⟨_,rfl⟩;replace H : (spec_l01Items.l0 k1 t212 y215)=some (r1,r2):=by first|(rw [hy215];with_reducible exact H)|(have H2_:=(Option.bind_some _ _).symm.trans H;rw [hy215];with_reducible exact H2_)|(have H2_:=(Option.bind_some _ _).symm.trans H;with_reducible exact H2_)|with_reducible exact H|(rw [hy215];exact H)|exact H
      have Ny215:=zh hy215;clear hy215;have H':=zh H;clear H
      go_wp2_with (first|((with_reducible refine zJ (f:=80) rfl ?_);refine yj (some 14) rfl rfl Tryd.func80 (by kernel_rfl) rfl #[.string x0_1] rfl (by (try simp only [zt,zu,zv]);first|done|rfl|(simp only [zw,zx];rfl)|(simp only [yr,ys,zV,zW];rfl)) ?_;(with_reducible refine (spec_l01Next.calls k1  x0_1 t209 t210 t211 t212 true _ A5.out).mono ?_);rintro e w8 ⟨rfl,hb⟩;refine ⟨_,rfl,?_⟩;replace HO_4:=zh (yg (by (with_reducible repeat (first|apply zm|apply zn|apply zo));exact HO_4.out) hb);replace HB:=zh (zC (by repeat (with_reducible first|exact HB.out|apply za|apply zb|apply zc)) hb);(try clear hb);(try clear hb2);(try clear hk);(try clear hi))|((with_reducible refine zK (N:=5) rfl ?_);refine zI ?hg (N:=5) ?hd (cs:=#[.int .i64 0,.int .i64 0,.string (⟨#[]⟩ : ByteArray)]) (t:=39) ?hr ?_;(case hd => rfl);(case hg => rfl);(case hr => first|(go_simp;done)|(go_simp;rfl));intro gb214 hg w9 hbox hb;replace HO_4:=zh (yg (Kd.R_elderB (by (with_reducible repeat (first|apply zm|apply zn|apply zo));exact HO_4.out) gb214 (Nat.le_of_eq hg.symm)) hb);have BK214:=zh (hbox);have GW214:=zh ((by rw [hg];exact (zB (by repeat (with_reducible first|exact HB.out|apply za|apply zb|apply zc))) : w.heap.size≤gb214));have GE214:=zh ((by rw [hg];exact (zB (by repeat (with_reducible first|exact HB.out|apply za|apply zb|apply zc))) : w.heap.size≤gb214));replace HB:=zh (zC (by repeat (with_reducible first|exact HB.out|apply za|apply zb|apply zc)) hb);clear hb hbox hg;have hcz10_0 : w9.cell? ⟨gb214,0,none⟩=some (.int .i64 0):=(zz BK214.out 0).trans rfl;have hcz10_1 : w9.cell? ⟨gb214,1,none⟩=some (.int .i64 0):=(zz BK214.out 1).trans rfl;have hcz10_2 : w9.cell? ⟨gb214,2,none⟩=some (.string (⟨#[]⟩ : ByteArray)):=(zz BK214.out 2).trans rfl;have hfz10_0:=zA BK214.out 0;have hfz10_1:=zA BK214.out 1;have hfz10_2:=zA BK214.out 2)|((with_reducible refine yB (b:=.append) (xs:=#[.tmp 21,.tmp 23]) rfl ?_);at_builtin;refine Kd.R_append k39 (w0:=w) w.heap.size rfl (.tmp 21) (.tmp 23) 51 39 (.agg #[(.int .i64 0),(.int .i64 0),(.string ⟨#[]⟩)]) 32 rfl Tryd.underlying51 info39 rfl (by decide) (by omega) u4 x4_1 (⟨t209,t210,t211⟩ : S39) [.int .i64 t209,.int .i64 t210,.string t211] (fun k_ => k_≠gb214) (fun _ => False) rfl (by first|(go_simp;done)|(go_simp;rfl)) ?aP (fun _ hk => hk.elim) ?aF ?aO ?aB ?aS ?aL ?_;(case aP => exact k39_mkM _ _ _ (⟨t209,t210,t211⟩ : S39));(case aB => exact (by repeat (with_reducible first|exact HB.out|apply za|apply zb|apply zc|refine zd ?_ GE214.out)));(case aF => exact (fun k_ hk => Kd.freshB (g:=gb214) (o:=.cells #[.int .i64 t209,.int .i64 t210,.string t211] 39 (0,0)) (by (with_reducible repeat (first|refine ze ?_ _|refine zf ?_|refine zg ?_ _));refine zL (cs:=#[.int .i64 t209,.int .i64 t210,.string (⟨#[]⟩ : ByteArray)]) ?_ 2 _ rfl;(with_reducible repeat (first|refine ze ?_ _|refine zf ?_|refine zg ?_ _));refine zL (cs:=#[.int .i64 t209,.int .i64 0,.string (⟨#[]⟩ : ByteArray)]) ?_ 1 _ rfl;(with_reducible repeat (first|refine ze ?_ _|refine zf ?_|refine zg ?_ _));refine zL (cs:=#[.int .i64 0,.int .i64 0,.string (⟨#[]⟩ : ByteArray)]) ?_ 0 _ rfl;(with_reducible repeat (first|refine ze ?_ _|refine zf ?_|refine zg ?_ _));exact BK214.out) k_ hk));(case aO => exact (by (with_reducible repeat (first|apply zm|apply zn|apply zo));exact zM (zE (p:=⟨gb214,2,none⟩) (zE (p:=⟨gb214,1,none⟩) (zE (p:=⟨gb214,0,none⟩) (zM HO_4.out (fun k_ hk => (⟨hk,hk.2⟩ : _∧k_≠gb214))) (fun _ hk => hk.2) (.int .i64 t209)) (fun _ hk => hk.2) (.int .i64 t210)) (fun _ hk => hk.2) (.string t211)) (fun _ hk => hk.1.2)));(case aS => exact (zB (by repeat (with_reducible first|exact HB.out|apply za|apply zb|apply zc|refine zd ?_ GE214.out))));(case aL => have:=LMc7.out;omega);intro v216 w11 ho hb hg hat;rw [← Ny215.out] at ho;replace BK214:=zh (yw (g:=gb214) (o:=.cells #[.int .i64 t209,.int .i64 t210,.string t211] 39 (0,0)) (by (with_reducible repeat (first|refine ze ?_ _|refine zf ?_|refine zg ?_ _));refine zL (cs:=#[.int .i64 t209,.int .i64 t210,.string (⟨#[]⟩ : ByteArray)]) ?_ 2 _ rfl;(with_reducible repeat (first|refine ze ?_ _|refine zf ?_|refine zg ?_ _));refine zL (cs:=#[.int .i64 t209,.int .i64 0,.string (⟨#[]⟩ : ByteArray)]) ?_ 1 _ rfl;(with_reducible repeat (first|refine ze ?_ _|refine zf ?_|refine zg ?_ _));refine zL (cs:=#[.int .i64 0,.int .i64 0,.string (⟨#[]⟩ : ByteArray)]) ?_ 0 _ rfl;(with_reducible repeat (first|refine ze ?_ _|refine zf ?_|refine zg ?_ _));exact BK214.out) hg (yv HO_4.out (fun _ hk => hk.2)));replace HB:=zh (hb);have HO217:=zh (ho);clear HO_4 ho hb hg hat))
      go_roundg k1
      case measure => have:=HK1.out;omega
      case rel => exact ⟨(t212),(y215),(by first|rfl|(simp;done)|(simp [*];done)),H',⟨by have:=HK1.out;omega⟩,⟨by (with_reducible repeat (first|apply zm|apply zn|apply zo));exact zM HO217.out (fun _ hk => trivial)⟩,⟨by repeat (with_reducible first|exact HB.out|apply za|apply zb|apply zc|refine zd ?_ GE214.out)⟩⟩
     rw [if_neg c7] at H;exact absurd H (by simp)
    replace c6:=yb.mpr c6;subst c6;have H1 : (some ((([] : List (S39))),false))=some (r1,r2):=by rw [if_neg (show ¬ (false=true) by decide)] at H;exact H
    clear H;have H:=H1;clear H1;obtain ⟨y218,hy218⟩ : ∃ y_ : List (S39),y_=(([] : List (S39))):=⟨_,rfl⟩;replace H : (some (y218,false))=some (r1,r2):=by first|(rw [hy218];with_reducible exact H)|(have H2_:=(Option.bind_some _ _).symm.trans H;rw [hy218];with_reducible exact H2_)|(have H2_:=(Option.bind_some _ _).symm.trans H;with_reducible exact H2_)|with_reducible exact H|(rw [hy218];exact H)|exact H
    have Ny218:=zh hy218;clear hy218;simp only [Option.some.injEq,Prod.mk.injEq] at H;obtain ⟨rfl,rfl⟩:=H
    go_wp2_with (first|((with_reducible refine zJ (f:=80) rfl ?_);refine yj (some 14) rfl rfl Tryd.func80 (by kernel_rfl) rfl #[.string x0_1] rfl (by (try simp only [zt,zu,zv]);first|done|rfl|(simp only [zw,zx];rfl)|(simp only [yr,ys,zV,zW];rfl)) ?_;(with_reducible refine (spec_l01Next.calls k1  x0_1 t209 t210 t211 t212 false _ A5.out).mono ?_);rintro e w12 ⟨rfl,hb⟩;refine ⟨_,rfl,?_⟩;replace HO_4:=zh (yg (by (with_reducible repeat (first|apply zm|apply zn|apply zo));exact HO_4.out) hb);replace HB:=zh (zC (by repeat (with_reducible first|exact HB.out|apply za|apply zb|apply zc)) hb);(try clear hb);(try clear hb2);(try clear hk);(try clear hi))|((with_reducible refine zK (N:=5) rfl ?_);refine zI ?hg (N:=5) ?hd (cs:=#[.int .i64 0,.int .i64 0,.string (⟨#[]⟩ : ByteArray)]) (t:=39) ?hr ?_;(case hd => rfl);(case hg => rfl);(case hr => first|(go_simp;done)|(go_simp;rfl));intro gb214 hg w13 hbox hb;replace HO_4:=zh (yg (Kd.R_elderB (by (with_reducible repeat (first|apply zm|apply zn|apply zo));exact HO_4.out) gb214 (Nat.le_of_eq hg.symm)) hb);have BK214:=zh (hbox);have GW214:=zh ((by rw [hg];exact (zB (by repeat (with_reducible first|exact HB.out|apply za|apply zb|apply zc))) : w.heap.size≤gb214));have GE214:=zh ((by rw [hg];exact (zB (by repeat (with_reducible first|exact HB.out|apply za|apply zb|apply zc))) : w.heap.size≤gb214));replace HB:=zh (zC (by repeat (with_reducible first|exact HB.out|apply za|apply zb|apply zc)) hb);clear hb hbox hg;have hcz14_0 : w13.cell? ⟨gb214,0,none⟩=some (.int .i64 0):=(zz BK214.out 0).trans rfl;have hcz14_1 : w13.cell? ⟨gb214,1,none⟩=some (.int .i64 0):=(zz BK214.out 1).trans rfl;have hcz14_2 : w13.cell? ⟨gb214,2,none⟩=some (.string (⟨#[]⟩ : ByteArray)):=(zz BK214.out 2).trans rfl;have hfz14_0:=zA BK214.out 0;have hfz14_1:=zA BK214.out 1;have hfz14_2:=zA BK214.out 2)|((with_reducible refine zK (N:=20) rfl ?_);refine Kd.R_lit k39 _ 39 ?hg (N:=20) ?hd (xs:=([] : List (S39))) (inner:=[]) (ok:=fun _ => True) (okp:=fun _ => True) ?hr ?hp (fun _ hk => hk) trivial (Below.refl _ _) (ye _) (by simp) ?_;(case hd => rfl);(case hg => rfl);(case hr => first|(go_simp;done)|(go_simp;rfl));(case hp => exact (Reps.none _ _));intro v219 w15 ho16 hb hg_ hnew_;clear hg_ hnew_;(first|rw [← Ny218.out] at ho16|(simp only [Int.reduceToNat] at ho16;rw [← Ny218.out] at ho16));have HO220:=zh (yy (Kd.R_newB (Kd.R_new' ho16 (Kd.R_lt (by (with_reducible repeat (first|apply zm|apply zn|apply zo));exact (zM (zE (p:=⟨gb214,2,none⟩) (zE (p:=⟨gb214,1,none⟩) (zE (p:=⟨gb214,0,none⟩) (zM HO_4.out (fun k_ hk => (⟨hk,hk.2⟩ : _∧k_≠gb214))) (fun _ hk => hk.2) (.int .i64 t209)) (fun _ hk => hk.2) (.int .i64 t210)) (fun _ hk => hk.2) (.string t211)) (fun _ h_ => h_.1))))) (g:=gb214) (o:=.cells #[.int .i64 t209,.int .i64 t210,.string t211] 39 (0,0)) (by (with_reducible repeat (first|refine ze ?_ _|refine zf ?_|refine zg ?_ _));refine zL (cs:=#[.int .i64 t209,.int .i64 t210,.string (⟨#[]⟩ : ByteArray)]) ?_ 2 _ rfl;(with_reducible repeat (first|refine ze ?_ _|refine zf ?_|refine zg ?_ _));refine zL (cs:=#[.int .i64 t209,.int .i64 0,.string (⟨#[]⟩ : ByteArray)]) ?_ 1 _ rfl;(with_reducible repeat (first|refine ze ?_ _|refine zf ?_|refine zg ?_ _));refine zL (cs:=#[.int .i64 0,.int .i64 0,.string (⟨#[]⟩ : ByteArray)]) ?_ 0 _ rfl;(with_reducible repeat (first|refine ze ?_ _|refine zf ?_|refine zg ?_ _));exact BK214.out)) (zB (by repeat (with_reducible first|exact HB.out|apply za|apply zb|apply zc|refine zd ?_ GE214.out))));replace HO_4:=zh (Kd.R_elder' (by (with_reducible repeat (first|apply zm|apply zn|apply zo));exact (zM (zE (p:=⟨gb214,2,none⟩) (zE (p:=⟨gb214,1,none⟩) (zE (p:=⟨gb214,0,none⟩) (zM HO_4.out (fun k_ hk => (⟨hk,hk.2⟩ : _∧k_≠gb214))) (fun _ hk => hk.2) (.int .i64 t209)) (fun _ hk => hk.2) (.int .i64 t210)) (fun _ hk => hk.2) (.string t211)) (fun _ h_ => h_.1))) (Kd.R_base ho16) hb);replace BK214:=zh (zD (g:=gb214) (o:=.cells #[.int .i64 t209,.int .i64 t210,.string t211] 39 (0,0)) (by (with_reducible repeat (first|refine ze ?_ _|refine zf ?_|refine zg ?_ _));refine zL (cs:=#[.int .i64 t209,.int .i64 t210,.string (⟨#[]⟩ : ByteArray)]) ?_ 2 _ rfl;(with_reducible repeat (first|refine ze ?_ _|refine zf ?_|refine zg ?_ _));refine zL (cs:=#[.int .i64 t209,.int .i64 0,.string (⟨#[]⟩ : ByteArray)]) ?_ 1 _ rfl;(with_reducible repeat (first|refine ze ?_ _|refine zf ?_|refine zg ?_ _));refine zL (cs:=#[.int .i64 0,.int .i64 0,.string (⟨#[]⟩ : ByteArray)]) ?_ 0 _ rfl;(with_reducible repeat (first|refine ze ?_ _|refine zf ?_|refine zg ?_ _));exact BK214.out) hb);replace HB:=zh (zC (by repeat (with_reducible first|exact HB.out|apply za|apply zb|apply zc|refine zd ?_ GE214.out)) hb);clear hb ho16))
    go_ret2
    exact ⟨_,by first|rfl|(simp [yt,yu] <;> rfl)|(simp [*,yt,yu] <;> rfl),by (with_reducible repeat (first|apply zm|apply zn|apply zo));exact zM HO220.out (fun _ hk => trivial),by repeat (with_reducible first|exact HB.out|apply za|apply zb|apply zc|refine zd ?_ GE214.out)⟩
   rw [if_neg c4] at H;have c4b0 : decide (0<(x0_1.size : Int))=false:=decide_eq_false c4;have c4b1 : decide (0<x0_1.size)=false:=decide_eq_false (by omega);clear c4;simp only [Option.some.injEq,Prod.mk.injEq] at H;obtain ⟨rfl,rfl⟩:=H
   go_wp2
   go_ret2
   exact ⟨_,by first|rfl|(simp [yt,yu] <;> rfl)|(simp [*,yt,yu] <;> rfl),by (with_reducible repeat (first|apply zm|apply zn|apply zo));exact HO_4.out,by repeat (with_reducible first|exact HB.out|apply za|apply zb|apply zc)⟩

end Go.Proofs.YthjgfjlogilleaaDoor.Q
end
section
namespace Go.Proofs.YthjgfjlogilleaaDoor.Q
open Go.RowKit Go.Proofs.YthjgfjlogilleaaDoorW.PrintWords Go.Proofs.YthjgfjlogilleaaDoorW.PrintLast Go.Proofs.YthjgfjlogilleaaDoorW.PrintMore
attribute [local go_sem] max2_int min2_int max_two min_two max_three min_three max_four min_four max2_str min2_str str_geq str_gtr str_leq   -- for this text's walks alone
set_option linter.unusedVariables false
set_option linter.unusedSimpArgs false

def spec_l01Fields.l0 : Nat→ByteArray→List (S92)→Option ((List (S92))×Bool)
 | 0,_,_ => none
 | k + 1,x0,x4 => if (x0.size : Int) > 0 then (if 0<(x0.size : Int) then (if (x0.size : Int)<(wrap64 (1 + (wrap64 (bt x0 0)))) then (some ((([] : List (S92))),false)) else (if 1≤(wrap64 (1 + (wrap64 (bt x0 0)))) then (if (wrap64 (1 + (wrap64 (bt x0 0))))≤(x0.size : Int) then (if 0≤(wrap64 (1 + (wrap64 (bt x0 0)))) then ((spec_l01Next.f k (x0.extract ((wrap64 (1 + (wrap64 (bt x0 0)))) : Int).toNat x0.size)).bind fun bt227 => (if bt227.2.2.2.2=true then (if x4.length<2932031007402 then (spec_l01Fields.l0 k bt227.2.2.2.1 (x4 ++ [(⟨x0.extract 1 ((wrap64 (1 + (wrap64 (bt x0 0)))) : Int).toNat,(⟨bt227.1,bt227.2.1,bt227.2.2.1⟩ : S39)⟩ : S92)])) else (none)) else (some ((([] : List (S92))),false)))) else (none)) else (none)) else (none))) else (none)) else (some (x4,true))
def spec_l01Fields.f (k : Nat) (a0 : ByteArray) : Option ((List (S92))×Bool):=spec_l01Fields.l0 k a0 (([] : List (S92)))
theorem spec_l01Fields.mono_l : ∀ k,(∀ y0 y1,LeO (spec_l01Fields.l0 k y0 y1) (spec_l01Fields.l0 (k + 1) y0 y1))
 | 0 => fun _ _ r h => by simp [spec_l01Fields.l0] at h
 | k + 1 => by
  have ih0:=spec_l01Fields.mono_l k;intro y0 y1;unfold spec_l01Fields.l0
  repeat' first|(with_reducible exact ih0 _ _)|(with_reducible exact spec_l01Next.mono _ _)|(with_reducible exact zQ _)|(with_reducible exact zN _)|(with_reducible refine zP ?_ ?_)|(with_reducible refine zO ?_ (fun _ => ?_))|refine zP ?_ ?_|refine zO ?_ (fun _ => ?_)
theorem spec_l01Fields.mono : ∀ a0 k,LeO (spec_l01Fields.f k a0) (spec_l01Fields.f (k + 1) a0):=by
 intro a0 k;have ih0:=spec_l01Fields.mono_l k;unfold spec_l01Fields.f
 repeat' first|(with_reducible exact ih0 _ _)|(with_reducible exact spec_l01Next.mono _ _)|(with_reducible exact zQ _)|(with_reducible exact zN _)|(with_reducible refine zP ?_ ?_)|(with_reducible refine zO ?_ (fun _ => ?_))|refine zP ?_ ?_|refine zO ?_ (fun _ => ?_)
set_option maxHeartbeats 8000000 in
set_option maxRecDepth 100000 in
theorem spec_l01Fields.calls (k : Nat) (a0 : ByteArray) (r1 : List (S92)) (r2 : Bool) (w : World) (h : spec_l01Fields.f k a0=some (r1,r2)) :
  Calls Tryd.prog 67 #[.string a0] w fun e w' => ∃ v0_ : Value,e = .returned (.tuple #[v0_,.bool r2])∧Kd.R k92 92 w' w.heap.size (fun _ => True) v0_ r1∧Below w.heap.size w w':=by
 have hu39:=Tryd.underlying39;have hu92:=Tryd.underlying92;have HB:=zh (Below.refl w.heap.size w);have H : (spec_l01Fields.l0 k a0 (([] : List (S92))))=some (r1,r2):=h;clear h;obtain ⟨y221,hy221⟩ : ∃ y_ : List (S92),y_=(([] : List (S92))):=⟨_,rfl⟩;replace H : (spec_l01Fields.l0 k a0 y221)=some (r1,r2):=by first|(rw [hy221];with_reducible exact H)|(have H2_:=(Option.bind_some _ _).symm.trans H;rw [hy221];with_reducible exact H2_)|(have H2_:=(Option.bind_some _ _).symm.trans H;with_reducible exact H2_)|with_reducible exact H|(rw [hy221];exact H)|exact H
 have Ny221:=zh hy221;clear hy221;have H':=zh H;clear H
 go_enter Tryd.func67,Tryd.ntmps67
 go_wp2_with (first|((with_reducible refine zK (N:=10) rfl ?_);refine Kd.R_lit k92 _ 92 ?hg (N:=10) ?hd (xs:=([] : List (S92))) (inner:=[]) (ok:=fun _ => True) (okp:=fun _ => True) ?hr ?hp (fun _ hk => hk) trivial (Below.refl _ _) (ye _) (by simp) ?_;(case hd => rfl);(case hg => rfl);(case hr => first|(go_simp;done)|(go_simp;rfl));(case hp => exact (Reps.none _ _));intro v222 w2 ho3 hb hg_ hnew_;clear hg_ hnew_;(first|rw [← Ny221.out] at ho3|(simp only [Int.reduceToNat] at ho3;rw [← Ny221.out] at ho3));have HO223:=zh (yy ho3 (zB (by repeat (with_reducible first|exact HB.out|apply za|apply zb|apply zc))));replace HB:=zh (zC (by repeat (with_reducible first|exact HB.out|apply za|apply zb|apply zc)) hb);clear hb ho3))
 go_loopg [0,4] k (fun kq v0 v4 w' => ∃ (x0_1 : ByteArray) (x4_1 : List (S92)),v0 = .string x0_1∧Aside0 (spec_l01Fields.l0 kq x0_1 x4_1=some (r1,r2))∧Aside0 (kq≤k)∧Aside0 (Kd.R k92 92 w' w.heap.size (fun _ => True) v4 x4_1)∧Aside0 (Below w.heap.size w w'))
 case atStart => exact ⟨(a0),(y221),(by first|rfl|(simp;done)|(simp [*];done)),H',⟨ye _⟩,⟨by (with_reducible repeat (first|apply zm|apply zn|apply zo));exact HO223.out⟩,⟨by repeat (with_reducible first|exact HB.out|apply za|apply zb|apply zc)⟩⟩
 case round =>
  clear H'
  try clear p2
  obtain ⟨x0_1,x4_1,rfl,HA,HK1,HO_4,HB⟩:=hrel
  cases gk with
  | zero => exact absurd HA.out (by simp [spec_l01Fields.l0])
  | succ k1 =>
   have H:=HA.out;clear HA;simp only [spec_l01Fields.l0] at H
   by_cases c4 : (x0_1.size : Int) > 0
   ·
    rw [if_pos c4] at H
    have c4b0 : decide (0<(x0_1.size : Int))=true:=decide_eq_true c4;have c4b1 : decide (0<x0_1.size)=true:=decide_eq_true (by omega);clear c4
    by_cases c5 : 0<(x0_1.size : Int)
    ·
     rw [if_pos c5] at H
     have c5b0 : decide (0<(x0_1.size : Int))=true:=decide_eq_true c5;have c5b1 : decide (0<x0_1.size)=true:=decide_eq_true (by omega);clear c5
     by_cases c7 : (x0_1.size : Int)<(wrap64 (1 + (wrap64 (bt x0_1 0))))
     ·
      rw [if_pos c7] at H
      have c7b0 : decide ((x0_1.size : Int)<(wrap64 (1 + (wrap64 (bt x0_1 0)))))=true:=decide_eq_true c7;clear c7;obtain ⟨y224,hy224⟩ : ∃ y_ : List (S92),y_=(([] : List (S92))):=⟨_,rfl⟩;replace H : (some (y224,false))=some (r1,r2):=by first|(rw [hy224];with_reducible exact H)|(have H2_:=(Option.bind_some _ _).symm.trans H;rw [hy224];with_reducible exact H2_)|(have H2_:=(Option.bind_some _ _).symm.trans H;with_reducible exact H2_)|with_reducible exact H|(rw [hy224];exact H)|exact H
      have Ny224:=zh hy224;clear hy224;simp only [Option.some.injEq,Prod.mk.injEq] at H;obtain ⟨rfl,rfl⟩:=H;have p6 : 0≤(0 : Int):=(by omega);have q6 : 0<x0_1.size:=(by have : (0 : Int)<(x0_1.size : Int):=zy (by first|(with_reducible assumption)|assumption);omega);have hx6 : ∀ h : 0<x0_1.size,((x0_1[0]'h).toNat : Int)=bt x0_1 0:=bt_at x0_1 0;clear p6;have qi6 : (0<(x0_1.size : Int))=True:=eq_true (zy (by first|(with_reducible assumption)|assumption));replace q6:=eq_true q6
      go_wp2_with (first|((with_reducible refine zK (N:=22) rfl ?_);refine Kd.R_lit k92 _ 92 ?hg (N:=22) ?hd (xs:=([] : List (S92))) (inner:=[]) (ok:=fun _ => True) (okp:=fun _ => True) ?hr ?hp (fun _ hk => hk) trivial (Below.refl _ _) (ye _) (by simp) ?_;(case hd => rfl);(case hg => rfl);(case hr => first|(go_simp;done)|(go_simp;rfl));(case hp => exact (Reps.none _ _));intro v225 w8 ho9 hb hg_ hnew_;clear hg_ hnew_;(first|rw [← Ny224.out] at ho9|(simp only [Int.reduceToNat] at ho9;rw [← Ny224.out] at ho9));have HO226:=zh (yy (Kd.R_new' ho9 (Kd.R_lt (by (with_reducible repeat (first|apply zm|apply zn|apply zo));exact HO_4.out))) (zB (by repeat (with_reducible first|exact HB.out|apply za|apply zb|apply zc))));replace HO_4:=zh (Kd.R_elder' (by (with_reducible repeat (first|apply zm|apply zn|apply zo));exact HO_4.out) (Kd.R_base ho9) hb);replace HB:=zh (zC (by repeat (with_reducible first|exact HB.out|apply za|apply zb|apply zc)) hb);clear hb ho9))
      go_ret2
      exact ⟨_,by first|rfl|(simp [yt,yu] <;> rfl)|(simp [*,yt,yu] <;> rfl),by (with_reducible repeat (first|apply zm|apply zn|apply zo));exact zM HO226.out (fun _ hk => trivial),by repeat (with_reducible first|exact HB.out|apply za|apply zb|apply zc)⟩
     rw [if_neg c7] at H;have c7b0 : decide ((x0_1.size : Int)<(wrap64 (1 + (wrap64 (bt x0_1 0)))))=false:=decide_eq_false c7;clear c7
     by_cases c10 : 1≤(wrap64 (1 + (wrap64 (bt x0_1 0))))
     ·
      rw [if_pos c10] at H
      have c10b0:=eq_true c10;have c10b1 : decide (1≤(wrap64 (1 + (wrap64 (bt x0_1 0)))))=true:=decide_eq_true c10
      by_cases c11 : (wrap64 (1 + (wrap64 (bt x0_1 0))))≤(x0_1.size : Int)
      ·
       rw [if_pos c11] at H
       have c11b0:=eq_true c11;have c11b1 : decide ((wrap64 (1 + (wrap64 (bt x0_1 0))))≤(x0_1.size : Int))=true:=decide_eq_true c11;obtain ⟨ji12,hji12⟩ : ∃ j_ : Int,(wrap64 (1 + (wrap64 (bt x0_1 0))))=j_:=⟨_,rfl⟩;replace H : (if 0≤(ji12) then ((spec_l01Next.f k1 (x0_1.extract ((ji12) : Int).toNat x0_1.size)).bind fun bt227 => (if bt227.2.2.2.2=true then (if x4_1.length<2932031007402 then (spec_l01Fields.l0 k1 bt227.2.2.2.1 (x4_1 ++ [(⟨x0_1.extract 1 ((ji12) : Int).toNat,(⟨bt227.1,bt227.2.1,bt227.2.2.1⟩ : S39)⟩ : S92)])) else (none)) else (some ((([] : List (S92))),false)))) else (none))=some (r1,r2):=by first|(rw [hji12] at H;exact H)|(simp only [hji12] at H ⊢;exact H)
       (try rw [hji12] at c7b0);(try rw [hji12] at c10b0);(try rw [hji12] at c10b1);(try rw [hji12] at c10);(try rw [hji12] at c11b0);(try rw [hji12] at c11b1);(try rw [hji12] at c11);have hji12w : (IntKind.i64.wrap (1 + (wrap64 (bt x0_1 0))))=ji12:=(zG _).trans hji12
       by_cases c13 : 0≤(ji12)
       ·
        rw [if_pos c13] at H
        have c13b0:=eq_true c13;have c13b1 : decide (0≤(ji12))=true:=decide_eq_true c13;clear c13;have c14b0:=eq_true (zy (by first|(with_reducible assumption)|assumption) : (ji12)≤(x0_1.size : Int));replace H:=zT.mp H;obtain ⟨⟨t227,t228,t229,t230,t231⟩,A150,H⟩:=H;replace H : (if t231=true then (if x4_1.length<2932031007402 then (spec_l01Fields.l0 k1 t230 (x4_1 ++ [(⟨x0_1.extract 1 ((ji12) : Int).toNat,(⟨t227,t228,t229⟩ : S39)⟩ : S92)])) else (none)) else (some ((([] : List (S92))),false)))=some (r1,r2):=H;have A15:=zh A150;clear A150
        by_cases c16 : t231=true
        ·
         subst c16
         have H1 : (if x4_1.length<2932031007402 then (spec_l01Fields.l0 k1 t230 (x4_1 ++ [(⟨x0_1.extract 1 ((ji12) : Int).toNat,(⟨t227,t228,t229⟩ : S39)⟩ : S92)])) else (none))=some (r1,r2):=by rw [if_pos rfl] at H;exact H
         clear H;have H:=H1;clear H1
         by_cases c17 : x4_1.length<2932031007402
         ·
          rw [if_pos c17] at H
          have LMc17:=zh c17;clear c17;obtain ⟨y233,hy233⟩ : ∃ y_ : List (S92),y_=(x4_1 ++ [(⟨x0_1.extract 1 ((ji12) : Int).toNat,(⟨t227,t228,t229⟩ : S39)⟩ : S92)]):=⟨_,rfl⟩;replace H : (spec_l01Fields.l0 k1 t230 y233)=some (r1,r2):=by first|(rw [hy233];with_reducible exact H)|(have H2_:=(Option.bind_some _ _).symm.trans H;rw [hy233];with_reducible exact H2_)|(have H2_:=(Option.bind_some _ _).symm.trans H;with_reducible exact H2_)|with_reducible exact H|(rw [hy233];exact H)|exact H
          have Ny233:=zh hy233;clear hy233;have H':=zh H;clear H;have p6 : 0≤(0 : Int):=(by omega);have q6 : 0<x0_1.size:=(by have : (0 : Int)<(x0_1.size : Int):=zy (by first|(with_reducible assumption)|assumption);omega);have hx6 : ∀ h : 0<x0_1.size,((x0_1[0]'h).toNat : Int)=bt x0_1 0:=bt_at x0_1 0;clear p6;have qi6 : (0<(x0_1.size : Int))=True:=eq_true (zy (by first|(with_reducible assumption)|assumption));replace q6:=eq_true q6
          go_wp2_with (first|((with_reducible refine zJ (f:=80) rfl ?_);refine yj (some 32) rfl rfl Tryd.func80 (by kernel_rfl) rfl #[.string (x0_1.extract ((ji12) : Int).toNat x0_1.size)] rfl (by (try simp only [zt,zu,zv]);first|done|(simp only [hji12];rfl)|rfl|(simp only [zw,zx];rfl)|(simp only [yr,ys,zV,zW];rfl)) ?_;(with_reducible refine (spec_l01Next.calls k1  (x0_1.extract ((ji12) : Int).toNat x0_1.size) t227 t228 t229 t230 true _ A15.out).mono ?_);rintro e w18 ⟨rfl,hb⟩;refine ⟨_,rfl,?_⟩;replace HO_4:=zh (yg (by (with_reducible repeat (first|apply zm|apply zn|apply zo));exact HO_4.out) hb);replace HB:=zh (zC (by repeat (with_reducible first|exact HB.out|apply za|apply zb|apply zc)) hb);(try clear hb);(try clear hb2);(try clear hk);(try clear hi))|((with_reducible refine zK (N:=7) rfl ?_);refine zI ?hg (N:=7) ?hd (cs:=#[.int .i64 0,.int .i64 0,.string (⟨#[]⟩ : ByteArray)]) (t:=39) ?hr ?_;(case hd => rfl);(case hg => rfl);(case hr => first|(go_simp;done)|(go_simp;rfl));intro gb232 hg w19 hbox hb;replace HO_4:=zh (yg (by (with_reducible repeat (first|apply zm|apply zn|apply zo));exact HO_4.out) hb);have BK232:=zh (hbox);have GW232:=zh ((by rw [hg];exact (zB (by repeat (with_reducible first|exact HB.out|apply za|apply zb|apply zc))) : w.heap.size≤gb232));have GE232:=zh ((by rw [hg];exact (zB (by repeat (with_reducible first|exact HB.out|apply za|apply zb|apply zc))) : w.heap.size≤gb232));replace HB:=zh (zC (by repeat (with_reducible first|exact HB.out|apply za|apply zb|apply zc)) hb);clear hb hbox hg;have hcz20_0 : w19.cell? ⟨gb232,0,none⟩=some (.int .i64 0):=(zz BK232.out 0).trans rfl;have hcz20_1 : w19.cell? ⟨gb232,1,none⟩=some (.int .i64 0):=(zz BK232.out 1).trans rfl;have hcz20_2 : w19.cell? ⟨gb232,2,none⟩=some (.string (⟨#[]⟩ : ByteArray)):=(zz BK232.out 2).trans rfl;have hfz20_0:=zA BK232.out 0;have hfz20_1:=zA BK232.out 1;have hfz20_2:=zA BK232.out 2)|((with_reducible refine yB (b:=.append) (xs:=#[.tmp 39,.tmp 43]) rfl ?_);at_builtin;refine Kd.R_append k92 (w0:=w) w.heap.size rfl (.tmp 39) (.tmp 43) 88 92 (.agg #[(.string ⟨#[]⟩),(.int .i64 0),(.int .i64 0),(.string ⟨#[]⟩)]) 48 rfl Tryd.underlying88 info92 rfl (by decide) (by omega) u4 x4_1 (⟨x0_1.extract 1 ((ji12) : Int).toNat,(⟨t227,t228,t229⟩ : S39)⟩ : S92) [.string (x0_1.extract 1 ((ji12) : Int).toNat),.int .i64 t227,.int .i64 t228,.string t229] (fun _ => True) (fun _ => False) rfl (by first|(go_simp;done)|(go_simp;rfl)) ?aP (fun _ hk => hk.elim) ?aF ?aO ?aB ?aS ?aL ?_;(case aP => exact k92_mkM _ _ _ (⟨x0_1.extract 1 ((ji12) : Int).toNat,(⟨t227,t228,t229⟩ : S39)⟩ : S92));(case aB => exact (by repeat (with_reducible first|exact HB.out|apply za|apply zb|apply zc|refine zd ?_ GE232.out)));(case aF => exact (fun _ _ => trivial));(case aO => exact (by (with_reducible repeat (first|apply zm|apply zn|apply zo));exact zM (zE (p:=⟨gb232,2,none⟩) (zE (p:=⟨gb232,1,none⟩) (zE (p:=⟨gb232,0,none⟩) (yf HO_4.out BK232.out (by decide)) (fun _ hk => hk.2) (.int .i64 t227)) (fun _ hk => hk.2) (.int .i64 t228)) (fun _ hk => hk.2) (.string t229)) (fun _ hk => trivial)));(case aS => exact (zB (by repeat (with_reducible first|exact HB.out|apply za|apply zb|apply zc|refine zd ?_ GE232.out))));(case aL => have:=LMc17.out;omega);intro v234 w21 ho hb hg hat;rw [← Ny233.out] at ho;replace BK232:=zh (yw (g:=gb232) (o:=.cells #[.int .i64 t227,.int .i64 t228,.string t229] 39 (0,0)) (by (with_reducible repeat (first|refine ze ?_ _|refine zf ?_|refine zg ?_ _));refine zL (cs:=#[.int .i64 t227,.int .i64 t228,.string (⟨#[]⟩ : ByteArray)]) ?_ 2 _ rfl;(with_reducible repeat (first|refine ze ?_ _|refine zf ?_|refine zg ?_ _));refine zL (cs:=#[.int .i64 t227,.int .i64 0,.string (⟨#[]⟩ : ByteArray)]) ?_ 1 _ rfl;(with_reducible repeat (first|refine ze ?_ _|refine zf ?_|refine zg ?_ _));refine zL (cs:=#[.int .i64 0,.int .i64 0,.string (⟨#[]⟩ : ByteArray)]) ?_ 0 _ rfl;(with_reducible repeat (first|refine ze ?_ _|refine zf ?_|refine zg ?_ _));exact BK232.out) hg (Kd.R_ne HO_4.out BK232.out (by decide)));replace HB:=zh (hb);have HO235:=zh (ho);clear HO_4 ho hb hg hat))
          go_roundg k1
          case measure => have:=HK1.out;omega
          case rel => exact ⟨(t230),(y233),(by first|rfl|(simp;done)|(simp [*];done)),H',⟨by have:=HK1.out;omega⟩,⟨by (with_reducible repeat (first|apply zm|apply zn|apply zo));exact HO235.out⟩,⟨by repeat (with_reducible first|exact HB.out|apply za|apply zb|apply zc|refine zd ?_ GE232.out)⟩⟩
         rw [if_neg c17] at H;exact absurd H (by simp)
        replace c16:=yb.mpr c16;subst c16;have H1 : (some ((([] : List (S92))),false))=some (r1,r2):=by rw [if_neg (show ¬ (false=true) by decide)] at H;exact H
        clear H;have H:=H1;clear H1;obtain ⟨y236,hy236⟩ : ∃ y_ : List (S92),y_=(([] : List (S92))):=⟨_,rfl⟩;replace H : (some (y236,false))=some (r1,r2):=by first|(rw [hy236];with_reducible exact H)|(have H2_:=(Option.bind_some _ _).symm.trans H;rw [hy236];with_reducible exact H2_)|(have H2_:=(Option.bind_some _ _).symm.trans H;with_reducible exact H2_)|with_reducible exact H|(rw [hy236];exact H)|exact H
        have Ny236:=zh hy236;clear hy236;simp only [Option.some.injEq,Prod.mk.injEq] at H;obtain ⟨rfl,rfl⟩:=H;have p6 : 0≤(0 : Int):=(by omega);have q6 : 0<x0_1.size:=(by have : (0 : Int)<(x0_1.size : Int):=zy (by first|(with_reducible assumption)|assumption);omega);have hx6 : ∀ h : 0<x0_1.size,((x0_1[0]'h).toNat : Int)=bt x0_1 0:=bt_at x0_1 0;clear p6;have qi6 : (0<(x0_1.size : Int))=True:=eq_true (zy (by first|(with_reducible assumption)|assumption));replace q6:=eq_true q6
        go_wp2_with (first|((with_reducible refine zJ (f:=80) rfl ?_);refine yj (some 32) rfl rfl Tryd.func80 (by kernel_rfl) rfl #[.string (x0_1.extract ((ji12) : Int).toNat x0_1.size)] rfl (by (try simp only [zt,zu,zv]);first|done|(simp only [hji12];rfl)|rfl|(simp only [zw,zx];rfl)|(simp only [yr,ys,zV,zW];rfl)) ?_;(with_reducible refine (spec_l01Next.calls k1  (x0_1.extract ((ji12) : Int).toNat x0_1.size) t227 t228 t229 t230 false _ A15.out).mono ?_);rintro e w22 ⟨rfl,hb⟩;refine ⟨_,rfl,?_⟩;replace HO_4:=zh (yg (by (with_reducible repeat (first|apply zm|apply zn|apply zo));exact HO_4.out) hb);replace HB:=zh (zC (by repeat (with_reducible first|exact HB.out|apply za|apply zb|apply zc)) hb);(try clear hb);(try clear hb2);(try clear hk);(try clear hi))|((with_reducible refine zK (N:=7) rfl ?_);refine zI ?hg (N:=7) ?hd (cs:=#[.int .i64 0,.int .i64 0,.string (⟨#[]⟩ : ByteArray)]) (t:=39) ?hr ?_;(case hd => rfl);(case hg => rfl);(case hr => first|(go_simp;done)|(go_simp;rfl));intro gb232 hg w23 hbox hb;replace HO_4:=zh (yg (by (with_reducible repeat (first|apply zm|apply zn|apply zo));exact HO_4.out) hb);have BK232:=zh (hbox);have GW232:=zh ((by rw [hg];exact (zB (by repeat (with_reducible first|exact HB.out|apply za|apply zb|apply zc))) : w.heap.size≤gb232));have GE232:=zh ((by rw [hg];exact (zB (by repeat (with_reducible first|exact HB.out|apply za|apply zb|apply zc))) : w.heap.size≤gb232));replace HB:=zh (zC (by repeat (with_reducible first|exact HB.out|apply za|apply zb|apply zc)) hb);clear hb hbox hg;have hcz24_0 : w23.cell? ⟨gb232,0,none⟩=some (.int .i64 0):=(zz BK232.out 0).trans rfl;have hcz24_1 : w23.cell? ⟨gb232,1,none⟩=some (.int .i64 0):=(zz BK232.out 1).trans rfl;have hcz24_2 : w23.cell? ⟨gb232,2,none⟩=some (.string (⟨#[]⟩ : ByteArray)):=(zz BK232.out 2).trans rfl;have hfz24_0:=zA BK232.out 0;have hfz24_1:=zA BK232.out 1;have hfz24_2:=zA BK232.out 2)|((with_reducible refine zK (N:=38) rfl ?_);refine Kd.R_lit k92 _ 92 ?hg (N:=38) ?hd (xs:=([] : List (S92))) (inner:=[]) (ok:=fun _ => True) (okp:=fun _ => True) ?hr ?hp (fun _ hk => hk) trivial (Below.refl _ _) (ye _) (by simp) ?_;(case hd => rfl);(case hg => rfl);(case hr => first|(go_simp;done)|(go_simp;rfl));(case hp => exact (Reps.none _ _));intro v237 w25 ho26 hb hg_ hnew_;clear hg_ hnew_;(first|rw [← Ny236.out] at ho26|(simp only [Int.reduceToNat] at ho26;rw [← Ny236.out] at ho26));have HO238:=zh (yy (Kd.R_new' ho26 (Kd.R_lt (by (with_reducible repeat (first|apply zm|apply zn|apply zo));exact (zM (zE (p:=⟨gb232,2,none⟩) (zE (p:=⟨gb232,1,none⟩) (zE (p:=⟨gb232,0,none⟩) (yf HO_4.out BK232.out (by decide)) (fun _ hk => hk.2) (.int .i64 t227)) (fun _ hk => hk.2) (.int .i64 t228)) (fun _ hk => hk.2) (.string t229)) (fun _ h_ => h_.1))))) (zB (by repeat (with_reducible first|exact HB.out|apply za|apply zb|apply zc|refine zd ?_ GE232.out))));replace HO_4:=zh (Kd.R_elder' (by (with_reducible repeat (first|apply zm|apply zn|apply zo));exact (zM (zE (p:=⟨gb232,2,none⟩) (zE (p:=⟨gb232,1,none⟩) (zE (p:=⟨gb232,0,none⟩) (yf HO_4.out BK232.out (by decide)) (fun _ hk => hk.2) (.int .i64 t227)) (fun _ hk => hk.2) (.int .i64 t228)) (fun _ hk => hk.2) (.string t229)) (fun _ h_ => h_.1))) (Kd.R_base ho26) hb);replace BK232:=zh (zD (g:=gb232) (o:=.cells #[.int .i64 t227,.int .i64 t228,.string t229] 39 (0,0)) (by (with_reducible repeat (first|refine ze ?_ _|refine zf ?_|refine zg ?_ _));refine zL (cs:=#[.int .i64 t227,.int .i64 t228,.string (⟨#[]⟩ : ByteArray)]) ?_ 2 _ rfl;(with_reducible repeat (first|refine ze ?_ _|refine zf ?_|refine zg ?_ _));refine zL (cs:=#[.int .i64 t227,.int .i64 0,.string (⟨#[]⟩ : ByteArray)]) ?_ 1 _ rfl;(with_reducible repeat (first|refine ze ?_ _|refine zf ?_|refine zg ?_ _));refine zL (cs:=#[.int .i64 0,.int .i64 0,.string (⟨#[]⟩ : ByteArray)]) ?_ 0 _ rfl;(with_reducible repeat (first|refine ze ?_ _|refine zf ?_|refine zg ?_ _));exact BK232.out) hb);replace HB:=zh (zC (by repeat (with_reducible first|exact HB.out|apply za|apply zb|apply zc|refine zd ?_ GE232.out)) hb);clear hb ho26))
        go_ret2
        exact ⟨_,by first|rfl|(simp [yt,yu] <;> rfl)|(simp only [← hji12];first|rfl|(simp [yt,yu] <;> rfl))|(simp [*,yt,yu] <;> rfl),by (with_reducible repeat (first|apply zm|apply zn|apply zo));exact zM HO238.out (fun _ hk => trivial),by repeat (with_reducible first|exact HB.out|apply za|apply zb|apply zc|refine zd ?_ GE232.out)⟩
       rw [if_neg c13] at H;exact absurd H (by simp)
      rw [if_neg c11] at H;exact absurd H (by simp)
     rw [if_neg c10] at H;exact absurd H (by simp)
    rw [if_neg c5] at H;exact absurd H (by simp)
   rw [if_neg c4] at H;have c4b0 : decide (0<(x0_1.size : Int))=false:=decide_eq_false c4;have c4b1 : decide (0<x0_1.size)=false:=decide_eq_false (by omega);clear c4;simp only [Option.some.injEq,Prod.mk.injEq] at H;obtain ⟨rfl,rfl⟩:=H
   go_wp2
   go_ret2
   exact ⟨_,by first|rfl|(simp [yt,yu] <;> rfl)|(simp [*,yt,yu] <;> rfl),by (with_reducible repeat (first|apply zm|apply zn|apply zo));exact HO_4.out,by repeat (with_reducible first|exact HB.out|apply za|apply zb|apply zc)⟩

end Go.Proofs.YthjgfjlogilleaaDoor.Q
end
