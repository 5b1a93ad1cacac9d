/- FnExactReadOK: for every argument the law answers true, and the argument reads behind the call as it read before. Condition: the package-level variables that it reads start as the program's text lays them; the card ties them to it. -/
import Derived.Test.YthjgfjlogilleaaGreatDoorKLawFnExactReadOKp26
import Derived.Test.YthjgfjlogilleaaGreatDoorRows
import Derived.Test.YthjgfjlogilleaaGreatDoorTie
import Derived.Test.YthjgfjlogilleaaGreatDoorCards
import Derived.LaidMore
import Derived.Stop.Joined
import Derived.SevenTiedAt
import Derived.Carry
section
namespace Go.Proofs.YthjgfjlogilleaaGreatDoor.Pure
open Go Go.RowKit Go.Proofs.YthjgfjlogilleaaGreatDoor.Q Go.Proofs.YthjgfjlogilleaaGreatDoorW.PrintWords Go.Proofs.YthjgfjlogilleaaGreatDoorW.PrintLast Go.Proofs.YthjgfjlogilleaaGreatDoorW.PrintMore Go.Proofs.YthjgfjlogilleaaGreatDoorW.Pl
theorem inner_four (v : IVal) (h4 : v.f0=4) (hs : v.f2.size≤1048576) : ∃ l ok,Eve (fun k => F4.f k v.f0 v.f1 v.f2) (l,ok)∧l.length≤1048576∧(∀ x ∈ l,x.f2.size≤1048576) ∧
  ((itS v.f2.size v.f2=some l∧ok=true)∨(itS v.f2.size v.f2=none∧(ok=false ∨ ∃ x ∈ l,Bad x))):=by
 simp only [F4.f,Fk.f,if_pos h4]
 cases hi : itS v.f2.size v.f2 with
 | some l =>
  obtain ⟨h1,h2⟩:=its_size _ _ l hi hs;exact ⟨l,true,(Eve.bind (items_some _ v.f2 [] l hi (by simp;omega)) Eve.one),by omega,h2,.inl ⟨rfl,rfl⟩⟩
 | none =>
  obtain ⟨l,ok,hl,hb,h1,h2⟩:=items_none _ v.f2 [] (Nat.le_refl _) hi (by simp;omega);exact ⟨l,ok,(Eve.bind hl Eve.one),by omega,h2,.inr ⟨rfl,hb⟩⟩
theorem inner_five (v : IVal) (h5 : v.f0=5) (hs : v.f2.size≤1048576) : ∃ l ok,Eve (fun k => F4.f k v.f0 v.f1 v.f2) (l,ok)∧l.length≤1048576∧(∀ x ∈ l,x.f2.size≤1048576) ∧
  ((∃ fs,fdS v.f2.size v.f2=some fs∧l=fs.map (·.f1)∧ok=nms none fs)∨(fdS v.f2.size v.f2=none∧(ok=false ∨ ∃ x ∈ l,Bad x))):=by
 have h4 : ¬ v.f0=4:=by omega
 simp only [F4.f,F5.f,if_neg h4]
 cases hi : fdS v.f2.size v.f2 with
 | some fs =>
  obtain ⟨h1,h2⟩:=fds_size _ _ fs hi hs;refine ⟨fs.map (·.f1),nms none fs,?_,by simp;omega,?_,.inl ⟨fs,rfl,rfl,rfl⟩⟩
  ·
   refine Eve.bind (fields_some _ v.f2 [] fs hi (by simp;omega)) ?_
   exact (inner_loop fs (by omega) (fun f hf => (h2 f hf).1) true).eq (by simp)
  intro x hx;obtain ⟨f,hf,rfl⟩:=List.mem_map.1 hx;exact (h2 f hf).2
 | none =>
  obtain ⟨fs,ok,hl,hb,h1,h2⟩:=fields_none _ v.f2 [] (Nat.le_refl _) hi (by simp;omega);refine ⟨fs.map (·.f1),ok && nms none fs,?_,by simp;omega,?_,.inr ⟨rfl,?_⟩⟩
  ·
   refine Eve.bind hl ?_
   exact inner_loop fs (by omega) (fun f hf => (h2 f hf).1) ok
  ·
   intro x hx
   obtain ⟨f,hf,rfl⟩:=List.mem_map.1 hx;exact (h2 f hf).2
  rcases hb with hb|⟨f,hf,hb⟩
  ·
   left;rw [hb];rfl
  right;exact ⟨f.f1,List.mem_map.2 ⟨f,hf,rfl⟩,hb⟩
theorem all_bad (l : List IVal) (q : IVal→Bool) (x : IVal) (hx : x ∈ l) (h : q x=false) : l.all q=false:=by
 rw [List.all_eq_false];exact ⟨x,hx,by simp [h]⟩
theorem nest_tells (v : IVal) (d : Nat) (l : List IVal) (ok : Bool) (hd : d≤1000) (h45 : v.f0=4∨v.f0=5) (hin : Eve (fun k => F4.f k v.f0 v.f1 v.f2) (l,ok)) (hl : l.length≤1048576)
  (hq : ∀ x ∈ l,Eve (fun k => F2.f k x.f0 x.f1 x.f2 (d : Int)) (rightV d x)) :
  Eve (fun k => F2.f k v.f0 v.f1 v.f2 ((d + 1 : Nat) : Int)) (decide (v.f1=0) && (decide ((v.f2.size : Int)≤300) && (ok && l.all (rightV d)))):=by
 have hj : Eve (fun k => F2.j0 k true v.f0 v.f1 v.f2 ((d + 1 : Nat) : Int)) (decide (v.f1=0) && (decide ((v.f2.size : Int)≤300) && (ok && l.all (rightV d)))):=by
  refine Eve.succ ?_;simp only [F2.j0,if_true];refine Eve.bind hin ?_;refine Eve.ite (fun h1 => ?_) (fun h1 => Eve.one.eq (by simp [h1]));refine Eve.ite (fun h2 => ?_) (fun h2 => Eve.one.eq (by simp [h2]));refine Eve.ite (fun _ => ?_) (fun h => absurd (by omega) h);refine Eve.ite (fun h3 => ?_) (fun h3 => Eve.one.eq (by rw [show ok=false from Bool.eq_false_iff.mpr h3];simp));have hc:=cf_tells l (rightV d) ((d + 1 : Nat) : Int) (by omega) (fun x hx => by rw [dn d hd];exact hq x hx);refine Eve.bind hc (Eve.one.eq ?_);rw [any_not,show ok=true from h3];simp [h1,h2]
 refine Eve.succ ?_;simp only [F2.f];rcases h45 with h|h
 ·
  simp only [h] at hj ⊢
  simp only [show ¬ (4 : Int)=0 by omega,show ¬ (4 : Int)=1 by omega,show ¬ (4 : Int)=2 by omega,show ¬ (4 : Int)=3 by omega,if_false,if_true,beq_self_eq_true];exact hj
 simp only [h] at hj ⊢;simp only [show ¬ (5 : Int)=0 by omega,show ¬ (5 : Int)=1 by omega,show ¬ (5 : Int)=2 by omega,show ¬ (5 : Int)=3 by omega,show ¬ (5 : Int)=4 by omega,if_false,beq_self_eq_true];exact hj
theorem nest_zero (v : IVal) (l : List IVal) (ok : Bool) (h45 : v.f0=4∨v.f0=5) (hin : Eve (fun k => F4.f k v.f0 v.f1 v.f2) (l,ok)) : Eve (fun k => F2.f k v.f0 v.f1 v.f2 ((0 : Nat) : Int)) false:=by
 have hj : Eve (fun k => F2.j0 k true v.f0 v.f1 v.f2 ((0 : Nat) : Int)) false:=by
  refine Eve.succ ?_;simp only [F2.j0,if_true];refine Eve.bind hin ?_;refine Eve.ite (fun _ => ?_) (fun _ => Eve.one);refine Eve.ite (fun _ => ?_) (fun _ => Eve.one);exact Eve.ite (fun h => absurd h (by omega)) (fun _ => Eve.one)
 refine Eve.succ ?_;simp only [F2.f];rcases h45 with h|h
 ·
  simp only [h] at hj ⊢
  simp only [show ¬ (4 : Int)=0 by omega,show ¬ (4 : Int)=1 by omega,show ¬ (4 : Int)=2 by omega,show ¬ (4 : Int)=3 by omega,if_false,if_true,beq_self_eq_true];exact hj
 simp only [h] at hj ⊢;simp only [show ¬ (5 : Int)=0 by omega,show ¬ (5 : Int)=1 by omega,show ¬ (5 : Int)=2 by omega,show ¬ (5 : Int)=3 by omega,show ¬ (5 : Int)=4 by omega,if_false,beq_self_eq_true];exact hj
theorem right_impl : ∀ (d : Nat) (v : IVal),d≤1000→v.f2.size≤1048576→Eve (fun k => F2.f k v.f0 v.f1 v.f2 (d : Int)) (rightV d v):=by
 intro d
 induction d with
 | zero =>
  intro v hd hs
  by_cases h4 : v.f0=4
  ·
   obtain ⟨l,ok,hin,_⟩:=inner_four v h4 hs
   refine (nest_zero v l ok (.inl h4) hin).eq ?_;show false=flat v;unfold flat;rw [if_neg (by omega),if_neg (by omega),if_neg (by omega),if_neg (by omega)]
  by_cases h5 : v.f0=5
  ·
   obtain ⟨l,ok,hin,_⟩:=inner_five v h5 hs
   refine (nest_zero v l ok (.inr h5) hin).eq ?_;show false=flat v;unfold flat;rw [if_neg (by omega),if_neg (by omega),if_neg (by omega),if_neg (by omega)]
  exact impl_flat v _ h4 h5
 | succ d ih =>
  intro v hd hs
  by_cases h4 : v.f0=4
  ·
   obtain ⟨l,ok,hin,hl,hsz,hc⟩:=inner_four v h4 hs
   refine (nest_tells v d l ok (by omega) (.inl h4) hin hl (fun x hx => ih x (by omega) (hsz x hx))).eq ?_;unfold rightV;rw [if_pos h4];rcases hc with ⟨hi,rfl⟩|⟨hi,hb⟩
   ·
    rw [hi];simp
   rw [hi];rcases hb with rfl|⟨x,hx,hb⟩
   ·
    simp
   rw [all_bad l (rightV d) x hx (bad_right x hb d)];simp
  by_cases h5 : v.f0=5
  ·
   obtain ⟨l,ok,hin,hl,hsz,hc⟩:=inner_five v h5 hs
   refine (nest_tells v d l ok (by omega) (.inr h5) hin hl (fun x hx => ih x (by omega) (hsz x hx))).eq ?_;unfold rightV;rw [if_neg h4,if_pos h5];rcases hc with ⟨fs,hi,rfl,rfl⟩|⟨hi,hb⟩
   ·
    rw [hi,List.all_map];rfl
   rw [hi];rcases hb with rfl|⟨x,hx,hb⟩
   ·
    simp
   rw [all_bad l (rightV d) x hx (bad_right x hb d)];simp
  unfold rightV;rw [if_neg h4,if_neg h5];exact impl_flat v _ h4 h5
theorem right_small (d : Nat) (v : IVal) (h : 300<v.f2.size) : rightV d v=false:=by
 have he : emB v.f2=false:=by
  have : ¬ v.f2.toList=([] : List UInt8):=fun e => by have:=(emp _).1 e;omega
  simpa [emB] using this
 have hz : decide ((v.f2.size : Int)≤300)=false:=by simp;omega
 have hf : flat v=false:=by
  unfold flat;rw [he,hz]
  repeat' split
  all_goals simp
 cases d with
 | zero => exact hf
 | succ d =>
  unfold rightV;rw [hz,hf]
  repeat' split
  all_goals simp
theorem ok_impl (v : IVal) (hs : v.f2.size≤1048576) : Eve (fun k => F0f.f k v.f0 v.f1 v.f2) (rightV 5 v):=by
 simp only [F0f.f];exact Eve.bind (right_impl 5 v (by omega) hs) Eve.one
theorem ok_spec (v : IVal) (hs : v.f2.size≤1048576) : Eve (fun k => F0e.f k v.f0 v.f1 v.f2) (rightV 5 v):=by
 simp only [F0e.f];refine Eve.ite (fun _ => Eve.bind (right_spec 5 v (by omega) hs) Eve.one) (fun h => Eve.one.eq ?_);rw [right_small 5 v (by omega)]
def names (s : ByteArray) : List ByteArray:=(cutA 46 [] s.data.toList).map mkB
theorem names_le (s : ByteArray) (x : ByteArray) (h : x ∈ names s) : x.size≤s.size:=by
 obtain ⟨l,hl,rfl⟩:=List.mem_map.1 h;have:=cutA_le 46 s.data.toList [] l hl;show l.toArray.size≤s.data.size
 simpa using this
def pth (s : ByteArray) : Bool:=decide ((s.size : Int)≤50) && (decide (((names s).length : Int)≤4) && (names s).all nam)
theorem pth_loop (l : List ByteArray) (hl : ∀ x ∈ l,x.size≤1048576) (hn : l.length≤1048576) : Eve (fun k => F9.l0 k l 0) (l.all nam):=by
 refine ev_all l (fun k i => F9.l0 k l i) nam ?_ ?_
 ·
  simp only [F9.l0]
  exact Eve.ite (fun h => absurd h (by omega)) (fun _ => Eve.one)
 intro i hi v ih;simp only [F9.l0];refine Eve.ite (fun _ => ?_) (fun h => absurd (by omega) h);refine Eve.ite (fun _ => ?_) (fun h => absurd (by omega) h);rw [rdOf_at _ _ _ hi];refine Eve.bind (nam_spec l[i] (hl _ (List.getElem_mem hi))) ?_;rw [show wrap64 ((i : Int) + 1)=((i + 1 : Nat) : Int) by rw [w64] <;> omega];refine Eve.ite (fun h => ih.eq (by rw [h];simp)) (fun h => Eve.one.eq (by simp at h;rw [h];simp))
theorem names_len (s : ByteArray) : (names s).length≤s.size + 1:=by
 have : ∀ (l acc : List UInt8),(cutA 46 acc l).length≤l.length + 1:=by
  intro l
  induction l with
  | nil => intro acc;simp [cutA]
  | cons b l ih =>
   intro acc;unfold cutA
   split
   ·
    have:=ih [];simp;omega
   have:=ih (acc ++ [b]);simp;omega
 have h:=this s.data.toList [];have hlen : s.data.toList.length=s.size:=by rw [Array.length_toList];rfl
 unfold names;rw [List.length_map]
 omega
theorem pth_spec (s : ByteArray) (hs : s.size≤1048576) : Eve (fun k => F9.f k s) (pth s):=by
 simp only [F9.f];refine Eve.ite (fun h => Eve.one.eq (by unfold pth;rw [decide_eq_false (by omega)];rfl)) (fun h1 => ?_);refine Eve.bind (cut_spec s hs) ?_;have hl:=pth_loop (names s) (fun x hx => Nat.le_trans (names_le s x hx) hs) (by have:=names_len s;omega);change Eve _ _ at hl;refine Eve.ite (fun h => ?_) (fun h => ?_)
 ·
  refine Eve.succ ?_
  simp only [F9.j0,if_true];refine Eve.one.eq ?_;unfold pth;rw [decide_eq_false (p:=((names s).length : Int)≤4) (by unfold names;omega)];simp
 refine Eve.succ ?_;simp only [F9.j0,decide_eq_true_eq];refine Eve.ite (fun h2 => Eve.one.eq ?_) (fun h2 => hl.eq ?_)
 ·
  unfold pth;rw [decide_eq_false (p:=(s.size : Int)≤50) (by omega)];rfl
 unfold pth;rw [decide_eq_true (p:=(s.size : Int)≤50) (by omega),decide_eq_true (p:=((names s).length : Int)≤4) (by unfold names;omega)];rfl
theorem pth_index (l : List ByteArray) (hl : ∀ x ∈ l,x.size≤1048576) (hn : l.length≤1048576) : Eve (fun k => F0j.f k l) (!(l.all nam)):=by
 simp only [F0j.f,F05.f];have hi:=ev_loop0 l (fun k (_ : Unit) i => F05.l0 k l (l.length : Int) i) (fun i _ r => first (fun x => !(nam x)) r i) (fun _ _ => True) ?_ ?_ () trivial
 ·
  refine Eve.bind hi ?_
  refine Eve.one.eq ?_;have h:=first_any (fun x => !(nam x)) l 0;have h2 : (l.any fun x => !(nam x)) = !(l.all nam):=by rw [List.all_eq_not_any_not];simp
  rw [← h2,← h]
 ·
  intro _ _
  simp only [F05.l0];exact Eve.ite (fun h => absurd h (by omega)) (fun _ => Eve.one)
 intro i hi _ _ ih;have ih:=ih () trivial;simp only [F05.l0];refine Eve.ite (fun _ => ?_) (fun h => absurd (by omega) h);refine Eve.ite (fun _ => ?_) (fun h => absurd (by omega) h);refine Eve.ite (fun _ => ?_) (fun h => absurd (by omega) h);rw [rdOf_at _ _ _ hi];simp only [F0l.f];refine Eve.bind (v:=!(nam l[i])) (Eve.bind (nam_impl l[i] (hl _ (List.getElem_mem hi))) Eve.one) ?_;rw [show wrap64 ((i : Int) + 1)=((i + 1 : Nat) : Int) by rw [w64] <;> omega];refine Eve.ite (fun h => Eve.one.eq (by simp [first,h])) (fun h => ih.eq (by simp [first,h]))
theorem pth_impl (s : ByteArray) (hs : s.size≤1048576) : Eve (fun k => F06.f k s) (pth s):=by
 simp only [F06.f,split_impl s hs,Option.bind_some];unfold pth;refine Eve.ite (fun h => ?_) (fun h => Eve.one.eq (by rw [decide_eq_false h];rfl));rw [decide_eq_true h];refine Eve.ite (fun h2 => ?_) (fun h2 => Eve.one.eq (by rw [decide_eq_false (p:=((names s).length : Int)≤4) h2];rfl));rw [decide_eq_true (p:=((names s).length : Int)≤4) h2];refine Eve.bind (pth_index (names s) (fun x hx => Nat.le_trans (names_le s x hx) hs) (by have:=names_len s;omega)) ?_;exact Eve.one.eq (by simp)
abbrev LVal:=S77

def iv (v : LVal) : IVal:=⟨v.f0,v.f1,v.f2⟩
theorem szValue_tells (v : LVal) (h : v.f2.size≤9223372036854775807) {left : Int} (h0 : 0≤left) (h1 : left≤1048576) :
  F0v.f v.f0 v.f1 v.f2 left=some (if left - v.f2.size<0 then -1 else left - v.f2.size):=by
 unfold F0v.f;rw [w64 (by omega) (by omega)]
 split <;> rfl
theorem toValue_tells (v : LVal) : F0x.f v.f0 v.f1 v.f2=some (v.f0,v.f1,v.f2):=rfl
def trmK (op : Int) (v : IVal) : Bool :=
 if op=7 then v.f0 == 4 else if op=8 then v.f0 == 1 else if op=9 then (decide (v.f0=2) && inr v.f1 0 5) else if op=10 then (decide (v.f0=2) && decide (v.f1 ≥ 0)) else inr op 1 6
def trmV (op : Int) (p : ByteArray) (v : IVal) : Bool:=pth p && (rightV 5 v && trmK op v)
theorem pth_big (p : ByteArray) (h : (p.size : Int) > 65536) : pth p=false:=by unfold pth;rw [decide_eq_false (by omega)];rfl
theorem trm_no (a : Int) (b : ByteArray) (c d : Int) (e : ByteArray) : Eve (fun k => F3.j0 k true a b c d e) false :=
 Eve.succ (by simp only [F3.j0,if_true];exact Eve.one)
theorem trm_no2 (a : Int) (b : ByteArray) (c d : Int) (e : ByteArray) : Eve (fun k => Fq.j0 k true a b c d e) false :=
 Eve.succ (by simp only [Fq.j0,if_true];exact Eve.one)
theorem trm_j1 (op : Int) (b : Bool) (p : ByteArray) (v : IVal) (hb : b=inr op 1 6) : Eve (fun k => F3.j1 k op b op p v.f0 v.f1 v.f2) (trmK op v):=by
 refine Eve.succ ?_;simp only [F3.j1,in_spec,Option.bind_some];refine Eve.ite (fun h => Eve.one.eq ?_) (fun h => ?_)
 ·
  rw [hb] at h
  have h' : 1≤op∧op≤6:=by unfold inr at h;simpa using h
  unfold trmK;rw [if_neg (by omega),if_neg (by omega),if_neg (by omega),if_neg (by omega),h]
 have h0 : inr op 1 6=false:=by rw [hb] at h;simpa using h
 unfold trmK;refine Eve.ite (fun h7 => Eve.one.eq (by rw [if_pos h7])) (fun h7 => ?_);rw [if_neg h7];refine Eve.ite (fun h8 => Eve.one.eq (by rw [if_pos h8])) (fun h8 => ?_);rw [if_neg h8];refine Eve.ite (fun h9 => ?_) (fun h9 => ?_)
 ·
  rw [if_pos h9]
  exact Eve.ite (fun h => Eve.one.eq (by simp [h])) (fun h => Eve.one.eq (by simp [h]))
 rw [if_neg h9];refine Eve.ite (fun h10 => ?_) (fun h10 => Eve.one.eq (by rw [if_neg h10,h0]));rw [if_pos h10];exact Eve.ite (fun h => Eve.one.eq (by simp [h])) (fun h => Eve.one.eq (by simp [h]))
theorem trm_spec (op : Int) (p : ByteArray) (v : IVal) (hp : p.size≤1048576) (hv : v.f2.size≤1048576) : Eve (fun k => F3.f k op p v.f0 v.f1 v.f2) (trmV op p v):=by
 simp only [F3.f];refine Eve.ite (fun h2 => (trm_no _ _ _ _ _).eq (by unfold trmV;rw [pth_big p h2];rfl)) (fun h2 => ?_);refine Eve.bind (pth_spec p hp) ?_;refine Eve.ite (fun h3 => ?_) (fun h3 => (trm_no _ _ _ _ _).eq (by unfold trmV;simp at h3;rw [h3];rfl));refine Eve.bind (ok_spec v hv) ?_;refine Eve.succ ?_;simp only [F3.j0];refine Eve.ite (fun h5 => Eve.one.eq (by unfold trmV;simp at h5;simp [h5])) (fun h5 => ?_);have h5' : rightV 5 v=true:=by simpa using h5
 unfold trmV;simp only [h3,h5',Bool.true_and];have hi : ∀ j : Int,1≤j→j≤5→op=j→(op == j)=inr op 1 6:=fun j h1 h2 h => by subst h;unfold inr;simp;omega
 refine Eve.ite (fun h => trm_j1 op _ p v (hi 1 (by omega) (by omega) h)) (fun n1 => ?_);refine Eve.ite (fun h => trm_j1 op _ p v (hi 2 (by omega) (by omega) h)) (fun n2 => ?_);refine Eve.ite (fun h => trm_j1 op _ p v (hi 3 (by omega) (by omega) h)) (fun n3 => ?_);refine Eve.ite (fun h => trm_j1 op _ p v (hi 4 (by omega) (by omega) h)) (fun n4 => ?_);refine Eve.ite (fun h => trm_j1 op _ p v (hi 5 (by omega) (by omega) h)) (fun n5 => ?_);refine trm_j1 op _ p v ?_
 by_cases h6 : op=6
 ·
  subst h6;rfl
 have hf : inr op 1 6=false:=by
  unfold inr
  by_cases h1 : 1≤op
  ·
   rw [decide_eq_true h1,decide_eq_false (by omega)];rfl
  rw [decide_eq_false h1];rfl
 rw [hf];simpa using h6
theorem trm_impl (op : Int) (p : ByteArray) (v : IVal) (hp : p.size≤1048576) (hv : v.f2.size≤1048576) : Eve (fun k => Fq.f k op p v.f0 v.f1 v.f2) (trmV op p v):=by
 simp only [Fq.f];refine Eve.bind (pth_impl p hp) ?_;refine Eve.ite (fun h3 => ?_) (fun h3 => (trm_no2 _ _ _ _ _).eq (by unfold trmV;simp at h3;rw [h3];rfl));refine Eve.bind (ok_impl v hv) ?_;refine Eve.succ ?_;simp only [Fq.j0,in_impl,Option.bind_some];refine Eve.ite (fun h5 => Eve.one.eq (by unfold trmV;simp at h5;simp [h5])) (fun h5 => ?_);have h5' : rightV 5 v=true:=by simpa using h5
 unfold trmV trmK;simp only [h3,h5',Bool.true_and];refine Eve.ite (fun h7 => Eve.one.eq (by rw [if_pos h7])) (fun h7 => ?_);rw [if_neg h7];refine Eve.ite (fun h8 => Eve.one.eq (by rw [if_pos h8])) (fun h8 => ?_);rw [if_neg h8];refine Eve.ite (fun h9 => ?_) (fun h9 => ?_)
 ·
  rw [if_pos h9]
  exact Eve.ite (fun h => Eve.one.eq (by simp [h])) (fun h => Eve.one.eq (by simp [h]))
 rw [if_neg h9];refine Eve.ite (fun h10 => ?_) (fun h10 => Eve.one.eq (by rw [if_neg h10]));rw [if_pos h10];exact Eve.ite (fun h => Eve.one.eq (by simp [h])) (fun h => Eve.one.eq (by simp [h]))
abbrev LTrm:=S79
abbrev ITrm:=S51
abbrev LCls:=S61
abbrev ICls:=S46
def it (t : LTrm) : ITrm:=⟨t.f0,t.f1,iv t.f2⟩
def ic (c : LCls) : ICls:=⟨c.f0.map it⟩
def cut (l : Int) (n : Nat) : Int:=if l - (n : Int)<0 then -1 else l - (n : Int)
theorem cut_add (l : Int) (a b : Nat) : (if cut l a<0 then -1 else cut (cut l a) b)=cut l (a + b):=by
 unfold cut
 by_cases h : l - (a : Int)<0
 ·
  rw [if_pos h,if_pos (by omega),if_pos (by omega)]
 rw [if_neg h,if_neg h]
 by_cases h2 : l - (a : Int) - (b : Int)<0
 ·
  rw [if_pos h2,if_pos (by omega)]
 rw [if_neg h2,if_neg (by omega)];omega
theorem cut_in {l : Int} {n : Nat} (h : ¬ cut l n<0) : (n : Int)≤l∧cut l n=l - n:=by
 unfold cut at h ⊢
 by_cases h2 : l - (n : Int)<0
 ·
  rw [if_pos h2] at h;omega
 rw [if_neg h2];omega
theorem ev_cut {α : Type} (xs : List α) (g : Nat→Int→Int→Option Int) (s : α→Nat)
  (hend : ∀ l,Eve (fun k => g (k + 1) l (xs.length : Int)) l)
  (hstep : ∀ (i : Nat) (h : i<xs.length) (l v : Int),0≤l→l≤1048576→(¬ cut l (s xs[i])<0→Eve (fun k => g k (cut l (s xs[i])) ((i + 1 : Nat) : Int)) v)→Eve (fun k => g (k + 1) l (i : Int)) (if cut l (s xs[i])<0 then -1 else v))
  {l : Int} (h0 : 0≤l) (h1 : l≤1048576) : Eve (fun k => g k l 0) (cut l (total s xs)):=by
 refine (ev_less xs g s hend ?_ h0 h1).eq (by unfold cut;rfl);intro i hi l v h0 h1 ih;have hc : cut l (s xs[i])=if l - (s xs[i] : Int)<0 then -1 else l - (s xs[i] : Int):=rfl
 by_cases h : l - (s xs[i] : Int)<0
 ·
  rw [if_pos h]
  refine (hstep i hi l (-1) h0 h1 (fun h2 => absurd ?_ h2)).eq ?_
  ·
   rw [hc,if_pos h];omega
  rw [hc,if_pos h];rfl
 rw [if_neg h];refine (hstep i hi l v h0 h1 (fun _ => ?_)).eq ?_
 ·
  rw [hc,if_neg h];exact ih (by omega)
 rw [hc,if_neg h,if_neg (by omega)]
def szT (t : LTrm) : Nat:=t.f1.size + t.f2.f2.size
theorem szTerm_tells (t : LTrm) (hg : good79 t) {l : Int} (h0 : 0≤l) (h1 : l≤1048576) : Fl.f t.f0 t.f1 t.f2.f0 t.f2.f1 t.f2.f2 l=some (cut l (szT t)):=by
 obtain ⟨_,hp,_,_,hv⟩:=hg;unfold Fl.f;rw [w64 (by omega) (by omega)];unfold szT;rw [← cut_add];have hc : cut l t.f1.size=if l - (t.f1.size : Int)<0 then -1 else l - (t.f1.size : Int):=rfl
 by_cases h : l - (t.f1.size : Int)<0
 ·
  rw [if_pos h,hc,if_pos h,if_pos (by omega)]
 rw [if_neg h,szValue_tells t.f2 hv (by omega) (by omega)];have hc2 : cut l t.f1.size=l - (t.f1.size : Int):=by rw [hc,if_neg h]
 rw [hc2,if_neg h];simp only [Option.bind_some];show (if cut (l - (t.f1.size : Int)) t.f2.f2.size<0 then some (-1) else some (cut (l - (t.f1.size : Int)) t.f2.f2.size))=some (cut (l - (t.f1.size : Int)) t.f2.f2.size);refine (apply_ite some _ _ _).symm.trans (congrArg some ?_)
 by_cases h3 : cut (l - (t.f1.size : Int)) t.f2.f2.size<0
 ·
  rw [if_pos h3];unfold cut at h3 ⊢;split <;> omega
 rw [if_neg h3]
theorem rdLT (l : List LTrm) (i : Nat) (h : i<l.length) : rd_T79 l (i : Int)=l[i]:=getD_at _ l i h
theorem rdIT (l : List ITrm) (i : Nat) (h : i<l.length) : rd_T51 l (i : Int)=l[i]:=getD_at _ l i h
theorem rdLC (l : List LCls) (i : Nat) (h : i<l.length) : rd_T61 l (i : Int)=l[i]:=getD_at _ l i h
theorem rdIC (l : List ICls) (i : Nat) (h : i<l.length) : rd_T46 l (i : Int)=l[i]:=getD_at _ l i h
def szTS (l : List LTrm) : Nat:=l.length + total szT l
theorem szTermS_tells (xs : List LTrm) (hl : xs.length≤9223372036854775807) (hg : ∀ t ∈ xs,good79 t) {l : Int} (h0 : 0≤l) (h1 : l≤1048576) : Eve (fun k => Fz.f k xs l) (cut l (szTS xs)):=by
 simp only [Fz.f,w64 (show -9223372036854775808≤l - (xs.length : Int) by omega) (show l - (xs.length : Int)≤9223372036854775807 by omega)];unfold szTS;rw [← cut_add];have hc : cut l xs.length=if l - (xs.length : Int)<0 then -1 else l - (xs.length : Int):=rfl
 refine Eve.ite (fun h => Eve.one.eq (by rw [hc,if_pos h,if_pos (by omega)])) (fun h => ?_);rw [hc,if_neg h,if_neg h];refine ev_cut xs (fun k l' i => Fz.l0 k xs l' i) szT (fun l' => ?_) (fun i hi l' v a b ih => ?_) (by omega) (by omega)
 ·
  simp only [Fz.l0];exact Eve.ite (fun h => absurd h (by omega)) (fun _ => Eve.one)
 simp only [Fz.l0];refine Eve.ite (fun _ => ?_) (fun h => absurd (by omega) h);refine Eve.ite (fun _ => ?_) (fun h => absurd (by omega) h);simp only [rdLT _ _ hi,szTerm_tells _ (hg _ (List.getElem_mem hi)) a b,Option.bind_some,w64 (i:=(i : Int) + 1) (by omega) (by omega)];refine Eve.ite (fun h => Eve.one.eq (by rw [if_pos h])) (fun h => (ih h).eq (by rw [if_neg h]))
theorem szClauseS_tells (xs : List LCls) (hl : xs.length≤9223372036854775807) (hg : ∀ c ∈ xs,good61 c) {l : Int} (h0 : 0≤l) (h1 : l≤1048576) : Eve (fun k => Fy.f k xs l) (cut l (xs.length + total (fun c => szTS c.f0) xs)):=by
 simp only [Fy.f,w64 (show -9223372036854775808≤l - (xs.length : Int) by omega) (show l - (xs.length : Int)≤9223372036854775807 by omega)];rw [← cut_add];have hc : cut l xs.length=if l - (xs.length : Int)<0 then -1 else l - (xs.length : Int):=rfl
 refine Eve.ite (fun h => Eve.one.eq (by rw [hc,if_pos h,if_pos (by omega)])) (fun h => ?_);rw [hc,if_neg h,if_neg h];refine ev_cut xs (fun k l' i => Fy.l0 k xs l' i) (fun c => szTS c.f0) (fun l' => ?_) (fun i hi l' v a b ih => ?_) (by omega) (by omega)
 ·
  simp only [Fy.l0];exact Eve.ite (fun h => absurd h (by omega)) (fun _ => Eve.one)
 simp only [Fy.l0];refine Eve.ite (fun _ => ?_) (fun h => absurd (by omega) h);refine Eve.ite (fun _ => ?_) (fun h => absurd (by omega) h);simp only [rdLC _ _ hi,w64 (i:=(i : Int) + 1) (show -9223372036854775808≤(i : Int) + 1 by omega) (show (i : Int) + 1≤9223372036854775807 by omega),Fe.f];have hgc:=hg _ (List.getElem_mem hi);refine Eve.bind (v:=cut l' (szTS xs[i].f0)) (Eve.bind (szTermS_tells xs[i].f0 hgc.1 hgc.2 a b) ?_) ?_
 ·
  refine Eve.ite (fun h => Eve.one.eq ?_) (fun _ => Eve.one)
  unfold cut at h ⊢
  by_cases h3 : l' - (szTS xs[i].f0 : Int)<0
  ·
   rw [if_pos h3]
  rw [if_neg h3] at h;omega
 refine Eve.ite (fun h => Eve.one.eq (by rw [if_pos h])) (fun h => (ih h).eq (by rw [if_neg h]))
def szF (xs : List LCls) : Nat:=xs.length + total (fun c => szTS c.f0) xs
theorem cut_neg {l : Int} {n : Nat} (h : cut l n<0) (_h0 : 0≤l) : (-1 : Int)=cut l n:=by
 unfold cut at h ⊢
 by_cases h3 : l - (n : Int)<0
 ·
  rw [if_pos h3]
 rw [if_neg h3] at h;omega
theorem szFilter_tells (xs : List LCls) (hl : xs.length≤9223372036854775807) (hg : ∀ c ∈ xs,good61 c) {l : Int} (h0 : 0≤l) (h1 : l≤1048576) : Eve (fun k => F0i.f k xs l) (cut l (szF xs)):=by
 simp only [F0i.f];refine Eve.bind (szClauseS_tells xs hl hg h0 h1) ?_;exact Eve.ite (fun h => Eve.one.eq (cut_neg h h0)) (fun _ => Eve.one)
theorem szF_bounds {xs : List LCls} (h : szF xs≤1048576) : xs.length≤1048576 ∧ ∀ c ∈ xs,c.f0.length≤1048576 ∧ ∀ t ∈ c.f0,t.f1.size≤1048576∧t.f2.f2.size≤1048576:=by
 unfold szF at h;refine ⟨by omega,fun c hc => ?_⟩;have h2:=total_le (fun c : LCls => szTS c.f0) xs c hc;have h2 : c.f0.length + total szT c.f0≤total (fun c : LCls => szTS c.f0) xs:=h2;refine ⟨by omega,fun t ht => ?_⟩;have h3:=total_le szT c.f0 t ht;have h3 : t.f1.size + t.f2.f2.size≤total szT c.f0:=h3;exact ⟨by omega,by omega⟩
theorem toTermS_tells (l : List LTrm) (hl : l.length≤1048576) : Eve (fun k => Fw.f k l) (l.map it):=by
 simp only [Fw.f];refine Eve.ite (fun _ => ?_) (fun h => absurd (by omega) h);refine Eve.ite (fun _ => ?_) (fun h => absurd (by omega) h);rw [show ((l.length : Int) : Int).toNat=l.length from Int.toNat_natCast _];refine ev_map l (fun k ys i => Fw.l0 k l ys i) it _ (fun ys hy => ?_) (fun i hi ys v hy ih => ?_)
 ·
  simp only [Fw.l0];exact Eve.ite (fun h => absurd h (by omega)) (fun _ => Eve.one)
 simp only [Fw.l0];refine Eve.ite (fun _ => ?_) (fun h => absurd (by omega) h);refine Eve.ite (fun _ => ?_) (fun h => absurd (by omega) h);simp only [rdLT _ _ hi,Fm.f,toValue_tells,Option.bind_some,w64 (i:=(i : Int) + 1) (show -9223372036854775808≤(i : Int) + 1 by omega) (show (i : Int) + 1≤9223372036854775807 by omega)];refine Eve.ite (fun _ => ?_) (fun h => absurd (by omega) h);exact ih
theorem toClauseS_tells (l : List LCls) (hl : l.length≤1048576) (hc : ∀ c ∈ l,c.f0.length≤1048576) : Eve (fun k => Fu.f k l) (l.map ic):=by
 simp only [Fu.f];refine Eve.ite (fun _ => ?_) (fun h => absurd (by omega) h);refine Eve.ite (fun _ => ?_) (fun h => absurd (by omega) h);rw [show ((l.length : Int) : Int).toNat=l.length from Int.toNat_natCast _];refine ev_map l (fun k ys i => Fu.l0 k l ys i) ic _ (fun ys hy => ?_) (fun i hi ys v hy ih => ?_)
 ·
  simp only [Fu.l0];exact Eve.ite (fun h => absurd h (by omega)) (fun _ => Eve.one)
 simp only [Fu.l0];refine Eve.ite (fun _ => ?_) (fun h => absurd (by omega) h);refine Eve.ite (fun _ => ?_) (fun h => absurd (by omega) h);simp only [rdLC _ _ hi,Ff.f,w64 (i:=(i : Int) + 1) (show -9223372036854775808≤(i : Int) + 1 by omega) (show (i : Int) + 1≤9223372036854775807 by omega)];refine Eve.bind (Eve.bind (toTermS_tells l[i].f0 (hc _ (List.getElem_mem hi))) Eve.one) ?_;refine Eve.ite (fun _ => ?_) (fun h => absurd (by omega) h);exact ih
theorem toFilter_tells (l : List LCls) (hl : l.length≤1048576) (hc : ∀ c ∈ l,c.f0.length≤1048576) : Eve (fun k => F0o.f k l) (l.map ic):=by
 simp only [F0o.f];exact Eve.bind (toClauseS_tells l hl hc) Eve.one
theorem eqValue_self (a b : Int) (c : ByteArray) : F0u.f a b c a b c=some true:=by
 unfold F0u.f;rw [if_pos rfl,if_pos rfl,if_pos rfl]
theorem eqTermS_self (l : List ITrm) (hl : l.length≤1048576) : Eve (fun k => Fi.f k l l) true:=by
 simp only [Fi.f,if_true];refine (ev_all l (fun k i => Fi.l0 k l l i) (fun _ => true) ?_ ?_).eq (by simp)
 ·
  simp only [Fi.l0];exact Eve.ite (fun h => absurd h (by omega)) (fun _ => Eve.one)
 intro i hi v ih;simp only [Fi.l0];refine Eve.ite (fun _ => ?_) (fun h => absurd (by omega) h);refine Eve.ite (fun _ => ?_) (fun h => absurd (by omega) h);refine Eve.ite (fun _ => ?_) (fun h => absurd (by omega) h);simp only [F8.f,eqValue_self,if_true,Option.bind_some,w64 (i:=(i : Int) + 1) (show -9223372036854775808≤(i : Int) + 1 by omega) (show (i : Int) + 1≤9223372036854775807 by omega)];exact ih.eq (by simp)
theorem eqFilter_self (l : List ICls) (hl : l.length≤1048576) (hc : ∀ c ∈ l,c.f0.length≤1048576) : Eve (fun k => F0h.f k l l) true:=by
 have h : Eve (fun k => Fh.f k l l) true:=by
  simp only [Fh.f,if_true];refine (ev_all l (fun k i => Fh.l0 k l l i) (fun _ => true) ?_ ?_).eq (by simp)
  ·
   simp only [Fh.l0];exact Eve.ite (fun h => absurd h (by omega)) (fun _ => Eve.one)
  intro i hi v ih;simp only [Fh.l0];refine Eve.ite (fun _ => ?_) (fun h => absurd (by omega) h);refine Eve.ite (fun _ => ?_) (fun h => absurd (by omega) h);refine Eve.ite (fun _ => ?_) (fun h => absurd (by omega) h);simp only [F6.f,rdIC _ _ hi,w64 (i:=(i : Int) + 1) (show -9223372036854775808≤(i : Int) + 1 by omega) (show (i : Int) + 1≤9223372036854775807 by omega)];refine Eve.bind (v:=true) (Eve.bind (eqTermS_self l[i].f0 (hc _ (List.getElem_mem hi))) (by simp only [if_true];exact Eve.one)) ?_;simp only [if_true];exact ih.eq (by simp)
 simp only [F0h.f];refine Eve.bind h ?_;simp only [if_true];exact Eve.one
def trmR (t : ITrm) : Bool:=trmV t.f0 t.f1 t.f2
def clsV (c : ICls) : Bool:=decide ((c.f0.length : Int)≤4) && c.f0.all trmR
def fltV (l : List ICls) : Bool:=inr (l.length : Int) 1 3 && l.all clsV
def Small (l : List ICls) : Prop:=l.length≤1048576 ∧ ∀ c ∈ l,c.f0.length≤1048576 ∧ ∀ t ∈ c.f0,t.f1.size≤1048576∧t.f2.f2.size≤1048576
theorem flt_spec (l : List ICls) (hs : Small l) : Eve (fun k => Fc.f k l) (fltV l):=by
 obtain ⟨hl,hc⟩:=hs;simp only [Fc.f,in_spec,Option.bind_some];refine Eve.ite (fun h => ?_) (fun h => Eve.one.eq (by unfold fltV;simp at h;rw [h];rfl));unfold fltV;rw [h,Bool.true_and];refine ev_all l (fun k i => Fc.l0 k i l) clsV ?_ ?_
 ·
  simp only [Fc.l0];exact Eve.ite (fun h => absurd h (by omega)) (fun _ => Eve.one)
 intro i hi v ih;have hci:=hc _ (List.getElem_mem hi);simp only [Fc.l0,rdIC _ _ hi];refine Eve.ite (fun _ => ?_) (fun h => absurd (by omega) h);refine Eve.ite (fun _ => ?_) (fun h => absurd (by omega) h);refine Eve.ite (fun h4 => Eve.one.eq (by unfold clsV;rw [decide_eq_false (by omega)];rfl)) (fun h4 => ?_);unfold clsV;rw [decide_eq_true (by omega),Bool.true_and];refine ev_loop0 l[i].f0 (fun k (_ : Unit) j => Fc.l1 k (i : Int) j l) (fun _ _ r => r.all trmR && v) (fun _ _ => True) (fun _ _ => ?_) (fun j hj _ _ ih2 => ?_) () trivial
 ·
  simp only [Fc.l1,rdIC _ _ hi,w64 (i:=(i : Int) + 1) (show -9223372036854775808≤(i : Int) + 1 by omega) (show (i : Int) + 1≤9223372036854775807 by omega)]
  refine Eve.ite (fun _ => ?_) (fun h => absurd (by omega) h);refine Eve.ite (fun _ => ?_) (fun h => absurd (by omega) h);refine Eve.ite (fun h => absurd h (by omega)) (fun _ => ?_);exact ih.eq (by simp)
 have ih2:=ih2 () trivial;simp only [Fc.l1,rdIC _ _ hi,rdIT _ _ hj,w64 (i:=(j : Int) + 1) (show -9223372036854775808≤(j : Int) + 1 by omega) (show (j : Int) + 1≤9223372036854775807 by omega)];refine Eve.ite (fun _ => ?_) (fun h => absurd (by omega) h);refine Eve.ite (fun _ => ?_) (fun h => absurd (by omega) h);refine Eve.ite (fun _ => ?_) (fun h => absurd (by omega) h);refine Eve.ite (fun _ => ?_) (fun h => absurd (by omega) h);have ht:=hci.2 _ (List.getElem_mem hj);refine Eve.bind (trm_spec _ _ l[i].f0[j].f2 ht.1 ht.2) ?_;refine Eve.ite (fun h => ih2.eq ?_) (fun h => Eve.one.eq ?_)
 ·
  rw [List.all_cons,show trmR l[i].f0[j]=true from h,Bool.true_and]
 rw [List.all_cons,show trmR l[i].f0[j]=false from Bool.eq_false_iff.mpr h];rfl
theorem terms_impl (l : List ITrm) (hl : l.length≤1048576) (ht : ∀ t ∈ l,t.f1.size≤1048576∧t.f2.f2.size≤1048576) : Eve (fun k => Fg.f k l) (!(l.all trmR)):=by
 simp only [Fg.f,F02.f];have hi:=ev_loop0 l (fun k (_ : Unit) i => F02.l0 k l (l.length : Int) i) (fun i _ r => first (fun x => !(trmR x)) r i) (fun _ _ => True) ?_ ?_ () trivial
 ·
  refine Eve.bind hi ?_
  refine Eve.one.eq ?_;have h:=first_any (fun x => !(trmR x)) l 0;have h2 : (l.any fun x => !(trmR x)) = !(l.all trmR):=by rw [List.all_eq_not_any_not];simp
  rw [← h2,← h]
 ·
  intro _ _
  simp only [F02.l0];exact Eve.ite (fun h => absurd h (by omega)) (fun _ => Eve.one)
 intro i hi _ _ ih;have ih:=ih () trivial;simp only [F02.l0,rdIT _ _ hi,w64 (i:=(i : Int) + 1) (show -9223372036854775808≤(i : Int) + 1 by omega) (show (i : Int) + 1≤9223372036854775807 by omega),F0k.f];refine Eve.ite (fun _ => ?_) (fun h => absurd (by omega) h);refine Eve.ite (fun _ => ?_) (fun h => absurd (by omega) h);refine Eve.ite (fun _ => ?_) (fun h => absurd (by omega) h);have hti:=ht _ (List.getElem_mem hi);refine Eve.bind (v:=!(trmR l[i])) (Eve.bind (trm_impl _ _ l[i].f2 hti.1 hti.2) Eve.one) ?_;refine Eve.ite (fun h => Eve.one.eq (by simp [first,h])) (fun h => ih.eq (by simp [first,h]))
theorem flt_impl (l : List ICls) (hs : Small l) : Eve (fun k => Fj.f k l) (fltV l):=by
 obtain ⟨hl,hc⟩:=hs;simp only [Fj.f,in_impl,Option.bind_some];refine Eve.ite (fun h => ?_) (fun h => Eve.one.eq (by unfold fltV;simp at h;rw [h];rfl));unfold fltV;rw [h,Bool.true_and];simp only [Fd.f,F01.f];have hi:=ev_loop0 l (fun k (_ : Unit) i => F01.l0 k l (l.length : Int) i) (fun i _ r => first (fun x => !(clsV x)) r i) (fun _ _ => True) ?_ ?_ () trivial
 ·
  refine Eve.bind (Eve.bind hi Eve.one) ?_
  refine Eve.one.eq ?_;have h:=first_any (fun x => !(clsV x)) l 0;have h2 : (l.any fun x => !(clsV x)) = !(l.all clsV):=by rw [List.all_eq_not_any_not];simp
  have h3 : decide (first (fun x => !(clsV x)) l 0 ≥ 0) = !(l.all clsV):=h.trans h2;rw [h3];simp
 ·
  intro _ _
  simp only [F01.l0];exact Eve.ite (fun h => absurd h (by omega)) (fun _ => Eve.one)
 intro i hi _ _ ih;have ih:=ih () trivial;have hci:=hc _ (List.getElem_mem hi);simp only [F01.l0,rdIC _ _ hi,w64 (i:=(i : Int) + 1) (show -9223372036854775808≤(i : Int) + 1 by omega) (show (i : Int) + 1≤9223372036854775807 by omega),F07.f];refine Eve.ite (fun _ => ?_) (fun h => absurd (by omega) h);refine Eve.ite (fun _ => ?_) (fun h => absurd (by omega) h);refine Eve.ite (fun _ => ?_) (fun h => absurd (by omega) h);refine Eve.bind (v:=!(clsV l[i])) ?_ ?_
 ·
  refine Eve.ite (fun h => Eve.one.eq ?_) (fun h => ?_)
  ·
   unfold clsV;rw [decide_eq_false (by omega)];rfl
  refine Eve.bind (terms_impl l[i].f0 hci.1 hci.2) (Eve.one.eq ?_);unfold clsV;rw [decide_eq_true (by omega),Bool.true_and]
 refine Eve.ite (fun h => Eve.one.eq (by simp [first,h])) (fun h => ih.eq (by simp [first,h]))
theorem small_of {l : List LCls} (h : l.length≤1048576 ∧ ∀ c ∈ l,c.f0.length≤1048576 ∧ ∀ t ∈ c.f0,t.f1.size≤1048576∧t.f2.f2.size≤1048576) : Small (l.map ic):=by
 refine ⟨by simpa using h.1,fun c hc => ?_⟩;obtain ⟨c0,hc0,rfl⟩:=List.mem_map.1 hc;obtain ⟨h1,h2⟩:=h.2 c0 hc0;refine ⟨by simpa [ic] using h1,fun t ht => ?_⟩;obtain ⟨t0,ht0,rfl⟩:=List.mem_map.1 ht;exact h2 t0 ht0
theorem FnExactReadOK : F0n.Pure:=by
 rintro x ⟨hn,hl,hg⟩;refine Eve.get (g:=fun k => F0n.f k x.f0 x.f1.f0) ?_;simp only [F0n.f,F0g.f];rw [w64 (by omega) (by omega)]
 by_cases h : (1048576 : Int) - x.f0.size<0
 ·
  simp only [if_pos h,Option.bind_some];exact Eve.ite (fun _ => Eve.one) (fun h => absurd (by omega) h)
 simp only [if_neg h];refine Eve.bind (v:=cut ((1048576 : Int) - x.f0.size) (szF x.f1.f0)) (Eve.bind (szFilter_tells x.f1.f0 hl hg (by omega) (by omega)) ?_) ?_
 ·
  exact Eve.ite (fun h => Eve.one.eq (cut_neg h (by omega))) (fun _ => Eve.one)
 refine Eve.ite (fun _ => Eve.one) (fun h2 => ?_);have hb:=szF_bounds (xs:=x.f1.f0) (by have:=cut_in h2;omega);have hs:=small_of hb
 have ht : Eve (fun k => Fv.f k x.f0 x.f1.f0) (x.f0,x.f1.f0.map ic):=by
  simp only [Fv.f];exact Eve.bind (toFilter_tells x.f1.f0 hb.1 (fun c hc => (hb.2 c hc).1)) Eve.one
 have h1 : Eve (fun k => F0d.f k x.f0 (x.f1.f0.map ic)) (nam x.f0 && fltV (x.f1.f0.map ic)):=by
  simp only [F0d.f];refine Eve.bind (nam_spec x.f0 (by omega)) ?_;exact Eve.ite (fun h => (Eve.bind (flt_spec _ hs) Eve.one).eq (by rw [h];rfl)) (fun h => Eve.one.eq (by simp at h;rw [h];rfl))
 have h2 : Eve (fun k => F0a.f k x.f0 (x.f1.f0.map ic)) (nam x.f0 && fltV (x.f1.f0.map ic)):=by
  simp only [F0a.f];refine Eve.bind (nam_impl x.f0 (by omega)) ?_;exact Eve.ite (fun h => (Eve.bind (flt_impl _ hs) Eve.one).eq (by rw [h];rfl)) (fun h => Eve.one.eq (by simp at h;rw [h];rfl))
 refine Eve.bind ht (Eve.bind h1 (Eve.bind ht (Eve.bind h2 ?_)));simp only [bne_self_eq_false,Bool.false_eq_true,if_false];refine Eve.bind ht (Eve.bind (v:=true) ?_ ?_)
 ·
  simp only [F0b.f,if_true]
  refine Eve.bind (eqFilter_self _ hs.1 (fun c hc => (hs.2 c hc).1)) ?_;simp only [if_true];exact Eve.one
 simp only [if_true];exact Eve.one
end Go.Proofs.YthjgfjlogilleaaGreatDoor.Pure
end
section
namespace Go.Proofs.YthjgfjlogilleaaGreatDoor.fnExactReadOK
open Go.ChangeShapes Go.WideShapes Go.ChangeAt Go.RowKit Go.Proofs.YthjgfjlogilleaaGreatDoorW.PrintWords Go.Proofs.YthjgfjlogilleaaGreatDoorW.PrintOpen Go.Proofs.YthjgfjlogilleaaGreatDoor.Q
open Go.ChangeMaps (open_string shut_string)
set_option linter.unusedVariables false
noncomputable def doorWorld (os : Os) : World :=
 { World.doorLaid Tryz.prog 19 os with heap:=(World.doorLaid Tryz.prog 19 os).heap.modify 1 fun
   | .cells _ t frozen => .cells (Go.Pinned.utf8FirstZ.map fun (z : Nat) => Value.int .u8 z).toArray t frozen
   | o => o }
abbrev laid1 : List (String × DataW Unit) := [("unicode/utf8.acceptRanges", Rows.laid_unicode_utf8_acceptRanges), ("unicode/utf8.first", Rows.laid_unicode_utf8_first)]
theorem door_met (os : Os) (args : Array Value) : laidMetH Tryz.prog laid1 ((doorWorld os).forCall (fun _ _ => 0) ⟨#[],args,[]⟩).memory :=
 laidMetH_of_parts3 (fuel:=8) (laidMet_of_run' 8 (by kernel_rfl) (by kernel_rfl)) (by kernel_rfl) (by kernel_rfl)
theorem own : ownKnob Tryz.prog.godebug=none:=by kernel_rfl
theorem laidOut : laidOutB Tryz.prog=true:=by kernel_rfl
set_option maxRecDepth 100000 in
theorem lifted (os : Os) (started : os.Started) (H : Type) (enc : TypeId×Value→H) :
  ReturnsInHanded {} Tryz.checked os 4 .any (fun w args => (Rows.fnExactReadOKSpec.pre enc Tryz.prog Tryz.f4 [] false w args∧laidMetH Tryz.prog laid1 w)∧sizedMet enc Tryz.prog Tryz.f4 (OpenSpec.ofChange Rows.fnExactReadOKSpec) false w args)
   (Rows.fnExactReadOKSpec.post enc Tryz.prog Tryz.f4 false true false false):=by
 refine returnsInHanded_of_change_and (C:=Tryz.checked) (X:=fun w _ => laidMetH Tryz.prog laid1 w) (fun _ _ _ hh h => h.of_heap hh) own started (by kernel_rfl) Tryz.func4
  (ChangeSpec.witness_shaped (enc:=enc) (C:=Tryz.checked) (os:=os) (X:=fun w _ => laidMetH Tryz.prog laid1 w) false (doorWorld os) #[.agg #[.string ByteArray.empty,.slice none 0 0]] 8 rfl (World.shaped_of_RefB (by kernel_rfl) (by kernel_rfl)) (by kernel_rfl) (by kernel_rfl) (by kernel_rfl) (door_met os _)) ?_
 intro W base args ds gs before hval0 hW hcnd hsz0 hL _
 have hval : ∀ (j : Nat) t v,Tryz.f4.params[j]? = some t→args[j]? = some v→Value.okWide Tryz.prog W .any base t v:=hval0
 have hW':=hW
 obtain ⟨p,q,hA0,hV,rfl,hfz,hnd⟩:=hW
 have hA : DataW.TrodAll enc Tryz.prog W 0 (fun _ => true) true Tryz.f4.params.toList args.toList ds p:=hA0
 rw [Tryz.params4] at hA hval
 obtain ⟨v0,vs0,d0,ds0,p0,q0,hargs,rfl,rfl,h0,r0⟩:=trodAll_cons hA
 obtain ⟨rfl,rfl,rfl⟩:=trodAll_nil r0
 obtain rfl : args = #[v0]:=by cases args;simp_all
 obtain ⟨rfl,rfl⟩:=trodVars_none hV
 have t0:=h0
 have lt0 : ∀ x ∈ p0,x.block<W.heap.size:=by obtain ⟨m,hm⟩:=t0;exact DataW.trod_lt m _ _ _ hm
 obtain ⟨x0,cs0,rfl,K0,g0⟩:=arg_struct Tryz.underlying34 opens34 (hval 0 34 v0 rfl rfl) h0
 obtain ⟨A0_1,c0_1,rfl,hl0_1,hc0_1⟩:=k34_open K0
 clear hA0 hval0 hsz0
 obtain ⟨k,hp⟩:=Pure.FnExactReadOK x0 g0
 refine (F0n.calls k x0.f0 A0_1 c0_1 x0.f1.f0 true W hc0_1 hl0_1 hp).mono fun e W' ⟨he,bel0⟩ => ?_
 have bel : Below W.heap.size W W':=bel0
 subst he
 exact ⟨_,rfl,_,_,_,[],_,[],hW',trodAll_mk1 (shut_bool Tryz.underlying4 _),(trodAll_cons_mk (Below.trod laidOut (by kernel_rfl) (of_decide_eq_true (by kernel_rfl)) t0 bel lt0) trodAll_mk0),rfl,bel.frame _,fun h => by cases h⟩
theorem over : Rows.fnExactReadOKRow.holds Tryz.pinned (OpenSpec.ofChange Rows.fnExactReadOKSpec) :=
 OpenClaim.holds_of_wide 4 Tryz.f4 rfl rfl rfl rfl rfl rfl rfl ⟨rfl,rfl,rfl,rfl,rfl⟩ rfl rfl rfl rfl rfl (by kernel_rfl) Tryz.func4 (by kernel_rfl)
  (of_decide_eq_true (by kernel_rfl)) (by unfold Func.isWrapper;first|(rw [if_pos (by decide +kernel)];kernel_rfl)|(rw [if_neg (by decide +kernel)];exact ⟨rfl,rfl⟩))
  (fun os started H enc _ => lifted os started H enc)
theorem card : Rows.FnExactReadOKCardSaid :=
 Claim7.holds_tied_plain_at .later [] _ true _ false
  over (fun _ h => by cases h) (by kernel_rfl) (fun _ h => by cases h) fnExactReadOK_row_tie rfl ⟨rfl,rfl⟩ (by kernel_rfl) rfl
  (fun f fn hf hfn => by
   obtain rfl : f = 4 := Option.some.inj ((show Tryz.prog.funcNamed "loop.example/g00380/laws.FnExactReadOK" = some 4 by kernel_rfl).symm.trans hf) |>.symm
   obtain rfl : fn=Tryz.f4:=(Option.some.inj (Tryz.func4.symm.trans hfn)).symm
   exact ⟨by kernel_rfl,fun j t ht => by
    rw [Tryz.params4] at ht
    have hm : t ∈ [34]:=by simpa using Array.mem_of_getElem? ht
    have hall : ([34].all fun u => !Tryz.prog.wantsStandIn u)=true:=by kernel_rfl
    exact (show Tryz.prog.wantsStandIn t=false by simpa using List.all_eq_true.1 hall t hm)⟩)
  (by kernel_rfl)
#print axioms card
end Go.Proofs.YthjgfjlogilleaaGreatDoor.fnExactReadOK
namespace Go.Proofs.YthjgfjlogilleaaGreatDoor
theorem fnExactReadOK_holds : Rows.FnExactReadOKCardSaid:=fnExactReadOK.card
end Go.Proofs.YthjgfjlogilleaaGreatDoor
end
