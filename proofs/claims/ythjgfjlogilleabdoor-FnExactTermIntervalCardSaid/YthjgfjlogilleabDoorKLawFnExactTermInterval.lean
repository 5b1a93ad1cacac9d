/- FnExactTermInterval: for all arguments the law answers true, and they read behind the call as they read before. Condition: the package-level variables that it reads start as the program's text lays them; the card ties them to it. -/
import Derived.Test.YthjgfjlogilleabDoorKLawFnExactTermIntervalp26
import Derived.Test.YthjgfjlogilleabDoorRows
import Derived.Test.YthjgfjlogilleabDoorTie
import Derived.Test.YthjgfjlogilleabDoorCards
import Derived.LaidMore
import Derived.Stop.Joined
import Derived.SevenTiedAt
import Derived.Carry
section
namespace Go.Proofs.YthjgfjlogilleabDoor.Pure
open Go Go.RowKit Go.Proofs.YthjgfjlogilleabDoor.Q Go.Proofs.YthjgfjlogilleabDoorW.PrintWords Go.Proofs.YthjgfjlogilleabDoorW.PrintLast Go.Proofs.YthjgfjlogilleabDoorW.PrintMore Go.Proofs.YthjgfjlogilleabDoorW.Pl
def esz (v : IVal) : Nat:=if v.f0=0 then 1 else if v.f0=1 then 2 else if v.f0=2 then 9 else 3 + v.f2.size
theorem nxt_esz (a : ByteArray) (v : IVal) (r : ByteArray) (h : nxtV a=some (v,r)) : esz v + r.size=a.size:=by
 obtain ⟨n,h1,h2,rfl,_,hc⟩:=nxt_cases a v r h;rw [ByteArray.size_extract];unfold esz;rcases hc with ⟨q,rfl⟩|⟨q,rfl,_⟩|⟨q,rfl,_⟩|⟨q,q2,hn,_⟩
 ·
  rw [if_pos q];omega
 ·
  rw [if_neg (by omega),if_pos q];omega
 ·
  rw [if_neg (by omega),if_neg (by omega),if_pos q];omega
 rw [if_neg (by omega),if_neg (by omega),if_neg (by omega)];omega
theorem its_esz : ∀ (m : Nat) (a : ByteArray) (l : List IVal),itS m a=some l→total esz l=a.size:=by
 intro m
 induction m with
 | zero =>
  intro a l h;simp only [itS] at h
  by_cases hz : a.size=0
  ·
   rw [if_pos hz] at h
   obtain rfl : []=l:=by simpa using h
   exact hz.symm
  rw [if_neg hz] at h;simp at h
 | succ m ih =>
  intro a l h;simp only [itS] at h
  by_cases hz : a.size=0
  ·
   rw [if_pos hz] at h
   obtain rfl : []=l:=by simpa using h
   exact hz.symm
  rw [if_neg hz] at h
  cases hn : nxtV a with
  | none => rw [hn] at h;simp at h
  | some p =>
   obtain ⟨v,r⟩:=p;rw [hn] at h;simp only [Option.map_eq_some_iff] at h;obtain ⟨l',h',rfl⟩:=h;have h1:=nxt_esz a v r hn;have h2:=ih r l' h';show esz v + total esz l' = a.size
   omega
def fsz (f : IFld) : Nat:=1 + f.f0.size + esz f.f1
theorem fds_esz : ∀ (m : Nat) (a : ByteArray) (l : List IFld),fdS m a=some l→total fsz l=a.size:=by
 intro m
 induction m with
 | zero =>
  intro a l h;simp only [fdS] at h
  by_cases hz : a.size=0
  ·
   rw [if_pos hz] at h
   obtain rfl : []=l:=by simpa using h
   exact hz.symm
  rw [if_neg hz] at h;simp at h
 | succ m ih =>
  intro a l h;simp only [fdS] at h
  by_cases hz : a.size=0
  ·
   rw [if_pos hz] at h
   obtain rfl : []=l:=by simpa using h
   exact hz.symm
  rw [if_neg hz] at h
  by_cases hy : (a.size : Int)<1 + bt a 0
  ·
   rw [if_pos hy] at h;simp at h
  rw [if_neg hy] at h;have hb:=bt_range a 0
  cases hn : nxtV (a.extract (1 + bt a 0).toNat a.size) with
  | none => rw [hn] at h;simp at h
  | some p =>
   obtain ⟨v,r⟩:=p;rw [hn] at h;simp only [Option.map_eq_some_iff] at h;obtain ⟨l',h',rfl⟩:=h;have h1:=nxt_esz _ v r hn;have h2:=ih r l' h';rw [ByteArray.size_extract] at h1;show 1 + (a.extract 1 (1 + bt a 0).toNat).size + esz v + total fsz l' = a.size;rw [ByteArray.size_extract]
   omega
def escL : List Int→List Int
 | [] => [0,0]
 | b :: l => b :: (if b=0 then 255 :: escL l else escL l)
theorem escL_len : ∀ l : List Int,(escL l).length≤2 * l.length + 2
 | [] => by simp [escL]
 | b :: l => by
  have:=escL_len l;unfold escL
  split <;> simp <;> omega
theorem escL_in : ∀ l : List Int,Byts l→Byts (escL l)
 | [],_ => by intro b hb;simp [escL] at hb;omega
 | b :: l,h => by
  have h1:=escL_in l (fun x hx => h x (by simp [hx]));have h2:=h b (by simp);intro x hx;unfold escL at hx
  by_cases hb : b=0
  ·
   rw [if_pos hb] at hx
   rcases List.mem_cons.1 hx with rfl|hx
   ·
    exact h2
   rcases List.mem_cons.1 hx with rfl|hx
   ·
    omega
   exact h1 x hx
  rw [if_neg hb] at hx;rcases List.mem_cons.1 hx with rfl|hx
  ·
   exact h2
  exact h1 x hx
def rawB : Nat→IVal→List Int
 | d,v => ((v.f0 + 1) % 256) :: (
  if v.f0=0 then [] else if v.f0=1 then [v.f1 % 256] else if v.f0=2 then dig (v.f1 + 4611686018427387904) 8
  else if v.f0=3 then escL (bytesOf v.f2)
  else match d with
   | 0 => []
   | d + 1 => if v.f0=4 then ((itS v.f2.size v.f2).getD []).flatMap (rawB d) ++ [0]
    else ((fdS v.f2.size v.f2).getD []).flatMap (fun f => 1 :: (escL (bytesOf f.f0) ++ rawB d f.f1)) ++ [0])
theorem flat_len {α β : Type} (g : α→List β) (s : α→Nat) : ∀ l : List α,(∀ x ∈ l,(g x).length≤3 * s x)→(l.flatMap g).length≤3 * total s l
 | [],_ => by simp [total]
 | x :: l,h => by
  have h1:=h x (by simp);have h2:=flat_len g s l (fun y hy => h y (by simp [hy]));rw [List.flatMap_cons,List.length_append];show _≤3 * (s x + total s l)
  omega
theorem right_300 {d : Nat} {v : IVal} (h : rightV d v=true) : v.f2.size≤300:=by
 rcases right_shape d v h with ⟨_,_,h⟩|⟨_,_,h⟩|⟨_,_,h⟩|⟨_,_,h⟩
 ·
  rw [h];decide
 ·
  rw [h];decide
 ·
  rw [h];decide
 exact h
theorem raw_len : ∀ (d : Nat) (v : IVal),rightV d v=true→(rawB d v).length≤3 * esz v:=by
 intro d
 induction d with
 | zero =>
  intro v h;have hs:=right_shape 0 v h;unfold rawB esz;have he:=escL_len (bytesOf v.f2);rw [bytesOf_length] at he;have hd:=dig_length (v.f1 + 4611686018427387904) 8
  split
  ·
   simp
  split
  ·
   simp
  split
  ·
   simp [hd]
  split
  ·
   simp;omega
  simp;omega
 | succ d ih =>
  intro v h;have he:=escL_len (bytesOf v.f2);rw [bytesOf_length] at he;have hd:=dig_length (v.f1 + 4611686018427387904) 8
  by_cases h4 : v.f0=4
  ·
   obtain ⟨e,l,he2,hi,hl⟩:=right_four h h4
   obtain rfl : d=e:=by omega
   unfold rawB esz;rw [if_neg (by omega),if_neg (by omega),if_neg (by omega),if_neg (by omega),if_neg (by omega),if_neg (by omega),if_neg (by omega)];simp only [h4,if_true,hi,Option.getD_some];have h1:=flat_len (rawB d) esz l (fun x hx => ih x (List.all_eq_true.1 hl x hx));have h2:=its_esz _ _ l hi;simp only [List.length_cons,List.length_append,List.length_nil]
   omega
  by_cases h5 : v.f0=5
  ·
   obtain ⟨e,l,he2,hi,hn,hl⟩:=right_five h h5
   obtain rfl : d=e:=by omega
   unfold rawB esz;rw [if_neg (by omega),if_neg (by omega),if_neg (by omega),if_neg (by omega),if_neg (by omega),if_neg (by omega),if_neg (by omega)];simp only [if_neg h4,hi,Option.getD_some]
   have h1:=flat_len (fun f : IFld => 1 :: (escL (bytesOf f.f0) ++ rawB d f.f1)) fsz l (fun x hx => by
    have:=ih x.f1 (List.all_eq_true.1 hl x hx);have h3:=escL_len (bytesOf x.f0);rw [bytesOf_length] at h3;unfold fsz;simp only [List.length_cons,List.length_append]
    omega)
   have h2:=fds_esz _ _ l hi;simp only [List.length_cons,List.length_append,List.length_nil]
   omega
  unfold rawB esz;have hs:=right_shape _ v h
  split
  ·
   simp
  split
  ·
   simp
  split
  ·
   simp [hd]
  split
  ·
   simp;omega
  unfold Shape at hs
  omega
theorem flat_in {α : Type} (g : α→List Int) : ∀ l : List α,(∀ x ∈ l,Byts (g x))→Byts (l.flatMap g):=fun l h b hb => by
 obtain ⟨x,hx,hb⟩:=List.mem_flatMap.1 hb;exact h x hx b hb
theorem raw_at (d : Nat) (v : IVal) (l : List Int) (h : l=(
  if v.f0=0 then [] else if v.f0=1 then [v.f1 % 256] else if v.f0=2 then dig (v.f1 + 4611686018427387904) 8
  else if v.f0=3 then escL (bytesOf v.f2)
  else match d with
   | 0 => []
   | d + 1 => if v.f0=4 then ((itS v.f2.size v.f2).getD []).flatMap (rawB d) ++ [0]
    else ((fdS v.f2.size v.f2).getD []).flatMap (fun f => 1 :: (escL (bytesOf f.f0) ++ rawB d f.f1)) ++ [0])) : rawB d v=((v.f0 + 1) % 256) :: l:=by
 subst h;cases d <;> rfl
theorem raw_in_of (d : Nat) (v : IVal) (hr : ∀ e,d=e + 1 → ∀ u,Byts (rawB e u)) : Byts (rawB d v):=by
 have fin : ∀ l : List Int,rawB d v=((v.f0 + 1) % 256) :: l→Byts l→Byts (rawB d v):=fun l e hl b hb => by
  rw [e] at hb;rcases List.mem_cons.1 hb with rfl|hb
  ·
   omega
  exact hl b hb
 by_cases h0 : v.f0=0
 ·
  exact fin [] (raw_at d v [] (by rw [if_pos h0])) (fun b hb => by simp at hb)
 by_cases h1 : v.f0=1
 ·
  exact fin [v.f1 % 256] (raw_at d v _ (by rw [if_neg h0,if_pos h1])) (fun b hb => by simp at hb;omega)
 by_cases h2 : v.f0=2
 ·
  exact fin _ (raw_at d v _ (by rw [if_neg h0,if_neg h1,if_pos h2])) (dig_in _ _)
 by_cases h3 : v.f0=3
 ·
  exact fin _ (raw_at d v _ (by rw [if_neg h0,if_neg h1,if_neg h2,if_pos h3])) (escL_in _ (bytes_in _))
 cases d with
 | zero => exact fin [] (raw_at 0 v _ (by rw [if_neg h0,if_neg h1,if_neg h2,if_neg h3])) (fun b hb => by simp at hb)
 | succ d =>
  have ih:=hr d rfl
  by_cases h4 : v.f0=4
  ·
   refine fin _ (raw_at (d + 1) v _ (by rw [if_neg h0,if_neg h1,if_neg h2,if_neg h3])) (fun b hb => ?_)
   simp only [if_pos h4] at hb;rcases List.mem_append.1 hb with hb|hb
   ·
    exact flat_in _ _ (fun x _ => ih x) b hb
   simp at hb;omega
  refine fin _ (raw_at (d + 1) v _ (by rw [if_neg h0,if_neg h1,if_neg h2,if_neg h3])) (fun b hb => ?_);simp only [if_neg h4] at hb;rcases List.mem_append.1 hb with hb|hb
  ·
   refine flat_in _ _ (fun f _ c hc => ?_) b hb
   rcases List.mem_cons.1 hc with rfl|hc
   ·
    omega
   rcases List.mem_append.1 hc with hc|hc
   ·
    exact escL_in _ (bytes_in _) c hc
   exact ih _ c hc
  simp at hb;omega
theorem raw_in : ∀ (d : Nat) (v : IVal),Byts (rawB d v)
 | 0,v => raw_in_of 0 v (fun e h => by omega)
 | d + 1,v => raw_in_of (d + 1) v (fun e h u => by
  obtain rfl : d=e:=by omega
  exact raw_in d u)
theorem str_len (l : List Int) : (strOfNums l).size=l.length:=by
 unfold strOfNums;simp [ByteArray.size]
theorem esc_spec (s : ByteArray) (hs : s.size≤1048576) : Eve (fun k => Fl.f k s) (strOfNums (escL (bytesOf s))):=by
 have hn : (bytesOf s).length=s.size:=bytesOf_length s;simp only [Fl.f];refine (ev_loop0 (bytesOf s) (fun k (x : List Int) i => Fl.l0 k s x i) (fun _ x r => strOfNums (x ++ escL r)) (fun i x => x.length≤2 * i) (fun x hx => ?_) (fun i hi x hx ih => ?_) [] (by simp)).eq (by simp)
 ·
  simp only [Fl.l0,Option.bind_some]
  refine Eve.ite (fun h => absurd h (by omega)) (fun _ => ?_);refine Eve.ite (fun _ => Eve.one) (fun h => absurd (by simp;omega) h)
 simp only [Fl.l0,Option.bind_some,bt_get s i hi,wi (show i≤9223372036854775806 by omega)];refine Eve.ite (fun _ => ?_) (fun h => absurd (by omega) h);refine Eve.ite (fun _ => ?_) (fun h => absurd (by omega) h);refine Eve.ite (fun _ => ?_) (fun h => absurd (by omega) h);refine Eve.ite (fun h0 => ?_) (fun h0 => ?_)
 ·
  refine Eve.ite (fun _ => ?_) (fun h => absurd (by simp;omega) h)
  refine (ih (x ++ [(bytesOf s)[i]] ++ [255]) (by simp;omega)).eq ?_;rw [escL,if_pos h0];simp
 refine (ih (x ++ [(bytesOf s)[i]]) (by simp;omega)).eq ?_;rw [escL,if_neg h0];simp
theorem esc_impl (acc : List Int) (s : ByteArray) (ha : acc.length≤4194304) (hs : s.size≤1048576) : Eve (fun k => Fk.f k acc s) (acc ++ escL (bytesOf s)):=by
 have hn : (bytesOf s).length=s.size:=bytesOf_length s;simp only [Fk.f];refine ev_loop0 (bytesOf s) (fun k (x : List Int) i => Fk.l0 k x s (s.size : Int) i) (fun _ x r => x ++ escL r) (fun i x => x.length≤acc.length + 2 * i) (fun x hx => ?_) (fun i hi x hx ih => ?_) acc (by simp)
 ·
  simp only [Fk.l0,Option.bind_some]
  refine Eve.ite (fun h => absurd h (by omega)) (fun _ => ?_);refine Eve.ite (fun _ => Eve.one.eq (by simp [escL])) (fun h => absurd (by simp;omega) h)
 simp only [Fk.l0,Option.bind_some,bt_get s i hi,wi (show i≤9223372036854775806 by omega)];refine Eve.ite (fun _ => ?_) (fun h => absurd (by omega) h);refine Eve.ite (fun _ => ?_) (fun h => absurd (by omega) h);refine Eve.ite (fun _ => ?_) (fun h => absurd (by omega) h);refine Eve.ite (fun _ => ?_) (fun h => absurd (by omega) h);refine Eve.ite (fun h0 => ?_) (fun h0 => ?_)
 ·
  refine Eve.ite (fun _ => ?_) (fun h => absurd (by simp;omega) h)
  refine (ih (x ++ [(bytesOf s)[i]] ++ [255]) (by simp;omega)).eq ?_;rw [escL,if_pos h0];simp
 refine (ih (x ++ [(bytesOf s)[i]]) (by simp;omega)).eq ?_;rw [escL,if_neg h0];simp
theorem total_drop {α : Type} (s : α→Nat) (l : List α) (i : Nat) (h : i<l.length) : total s (l.drop i)=s l[i] + total s (l.drop (i + 1)):=by
 rw [drop_at l i h];rfl
theorem key_impl : ∀ (d : Nat) (v : IVal) (acc : List Int),rightV d v=true→acc.length + 3 * esz v≤4000000→Eve (fun k => F4.f k acc v.f0 v.f1 v.f2) (acc ++ rawB d v):=by
 intro d
 induction d with
 | zero =>
  intro v acc h ha;have hs:=right_shape 0 v h;have hk : 0≤v.f0∧v.f0≤5:=by unfold Shape at hs;omega
  have h3:=right_300 h;refine Eve.succ ?_;simp only [F4.f,Option.bind_some,w64 (i:=v.f0 + 1) (by omega) (by omega)];refine Eve.ite (fun _ => ?_) (fun h => absurd (by omega) h);refine Eve.ite (fun h1 => Eve.ite (fun _ => Eve.one.eq ?_) (fun h => absurd (by simp;omega) h)) (fun h1 => ?_)
  ·
   rw [raw_at 0 v [v.f1 % 256] (by rw [if_neg (by omega),if_pos h1])];simp
  refine Eve.ite (fun h2 => ?_) (fun h2 => ?_)
  ·
   have hv : -1000000000000≤v.f1∧v.f1≤1000000000000:=by unfold Shape at hs;omega
   rw [w64 (i:=v.f1 + 4611686018427387904) (by omega) (by omega)];refine Eve.bind (eight_tells _) (Eve.ite (fun _ => Eve.one.eq ?_) (fun h => absurd (by simp [dig_length];omega) h));rw [raw_at 0 v _ (by rw [if_neg (by omega),if_neg h1,if_pos h2])];simp
  refine Eve.ite (fun h4 => ?_) (fun h4 => ?_)
  ·
   refine Eve.bind (esc_impl _ v.f2 (by simp;omega) (by omega)) (Eve.one.eq ?_)
   rw [raw_at 0 v _ (by rw [if_neg (by omega),if_neg h1,if_neg h2,if_pos h4])];simp
  have h0 : v.f0=0:=by
   have h9 : flat v=true:=h;unfold flat at h9
   by_cases q : v.f0=0
   ·
    exact q
   rw [if_neg q,if_neg h1,if_neg h2,if_neg h4] at h9;cases h9
  refine Eve.ite (fun h => absurd h (by omega)) (fun _ => ?_);refine Eve.ite (fun h => absurd h (by omega)) (fun _ => Eve.one.eq ?_);rw [raw_at 0 v [] (by rw [if_pos h0])]
 | succ d ih =>
  intro v acc h ha;have hs:=right_shape _ v h;have hk : 0≤v.f0∧v.f0≤5:=by unfold Shape at hs;omega
  have h3:=right_300 h;refine Eve.succ ?_;simp only [F4.f,Option.bind_some,w64 (i:=v.f0 + 1) (by omega) (by omega)];refine Eve.ite (fun _ => ?_) (fun h => absurd (by omega) h);refine Eve.ite (fun h1 => Eve.ite (fun _ => Eve.one.eq ?_) (fun h => absurd (by simp;omega) h)) (fun h1 => ?_)
  ·
   rw [raw_at _ v [v.f1 % 256] (by rw [if_neg (by omega),if_pos h1])];simp
  refine Eve.ite (fun h2 => ?_) (fun h2 => ?_)
  ·
   have hv : -1000000000000≤v.f1∧v.f1≤1000000000000:=by unfold Shape at hs;omega
   rw [w64 (i:=v.f1 + 4611686018427387904) (by omega) (by omega)];refine Eve.bind (eight_tells _) (Eve.ite (fun _ => Eve.one.eq ?_) (fun h => absurd (by simp [dig_length];omega) h));rw [raw_at _ v _ (by rw [if_neg (by omega),if_neg h1,if_pos h2])];simp
  refine Eve.ite (fun h4 => ?_) (fun h4 => ?_)
  ·
   refine Eve.bind (esc_impl _ v.f2 (by simp;omega) (by omega)) (Eve.one.eq ?_)
   rw [raw_at _ v _ (by rw [if_neg (by omega),if_neg h1,if_neg h2,if_pos h4])];simp
  refine Eve.ite (fun h5 => ?_) (fun h5 => ?_)
  ·
   obtain ⟨e,l,he2,hi,hl⟩:=right_four h h5
   obtain rfl : d=e:=by omega
   have hez : esz v=3 + v.f2.size:=by unfold esz;rw [if_neg (by omega),if_neg (by omega),if_neg (by omega)]
   have hit:=items_some _ v.f2 [] l hi (by simp;omega);have hll:=(its_size _ _ l hi (by omega)).1;have htot:=its_esz _ _ l hi;simp only [Ff.f];refine Eve.bind hit ?_;simp only [List.nil_append];refine (ev_loop0 l (fun k (x : List Int) i => F4.l0 k x l (l.length : Int) i) (fun _ x r => x ++ r.flatMap (rawB d) ++ [0]) (fun i x => x.length + 3 * total esz (l.drop i)≤3999999) (fun x hx => ?_) (fun i hi x hx ih2 => ?_) (acc ++ [(v.f0 + 1) % 256]) (by simp;omega)).eq ?_
   ·
    simp only [F4.l0]
    refine Eve.ite (fun h => absurd h (by omega)) (fun _ => ?_);refine Eve.ite (fun _ => Eve.one.eq (by simp)) (fun h => absurd (by omega) h)
   ·
    simp only [F4.l0,rdV l i hi,wi (show i≤9223372036854775806 by omega)]
    rw [total_drop esz l i hi] at hx;have hr:=List.all_eq_true.1 hl _ (List.getElem_mem hi);refine Eve.ite (fun _ => ?_) (fun h => absurd (by omega) h);refine Eve.ite (fun _ => ?_) (fun h => absurd (by omega) h);refine Eve.ite (fun _ => ?_) (fun h => absurd (by omega) h);refine Eve.bind (ih l[i] x hr (by omega)) ?_;have hlen:=raw_len d l[i] hr;refine (ih2 (x ++ rawB d l[i]) (by simp;omega)).eq ?_;rw [List.flatMap_cons];simp
   rw [raw_at (d + 1) v _ (by rw [if_neg (by omega),if_neg h1,if_neg h2,if_neg h4])];simp only [h5,if_true,hi,Option.getD_some];simp
  refine Eve.ite (fun h6 => ?_) (fun h6 => ?_)
  ·
   obtain ⟨e,l,he2,hi,hn,hl⟩:=right_five h h6
   obtain rfl : d=e:=by omega
   have hez : esz v=3 + v.f2.size:=by unfold esz;rw [if_neg (by omega),if_neg (by omega),if_neg (by omega)]
   have hit:=fields_some _ v.f2 [] l hi (by simp;omega);have hll:=fds_size _ _ l hi (by omega);have htot:=fds_esz _ _ l hi;simp only [F7.f];refine Eve.bind hit ?_;simp only [List.nil_append];refine (ev_loop0 l (fun k (x : List Int) i => F4.l1 k x l (l.length : Int) i) (fun _ x r => x ++ r.flatMap (fun f => 1 :: (escL (bytesOf f.f0) ++ rawB d f.f1)) ++ [0]) (fun i x => x.length + 3 * total fsz (l.drop i)≤3999999) (fun x hx => ?_) (fun i hi x hx ih2 => ?_) (acc ++ [(v.f0 + 1) % 256]) (by simp;omega)).eq ?_
   ·
    simp only [F4.l1]
    refine Eve.ite (fun h => absurd h (by omega)) (fun _ => ?_);refine Eve.ite (fun _ => Eve.one.eq (by simp)) (fun h => absurd (by omega) h)
   ·
    simp only [F4.l1,rdF l i hi,wi (show i≤9223372036854775806 by omega)]
    rw [total_drop fsz l i hi] at hx;have hf : fsz l[i]=1 + l[i].f0.size + esz l[i].f1:=rfl;have hr:=List.all_eq_true.1 hl _ (List.getElem_mem hi);have hsz:=hll.2 _ (List.getElem_mem hi);have he:=escL_len (bytesOf l[i].f0);rw [bytesOf_length] at he;refine Eve.ite (fun _ => ?_) (fun h => absurd (by omega) h);refine Eve.ite (fun _ => ?_) (fun h => absurd (by omega) h);refine Eve.ite (fun _ => ?_) (fun h => absurd (by omega) h);refine Eve.ite (fun _ => ?_) (fun h => absurd (by omega) h);refine Eve.bind (esc_impl (x ++ [1]) l[i].f0 (by simp;omega) hsz.1) ?_;refine Eve.bind (ih l[i].f1 (x ++ [1] ++ escL (bytesOf l[i].f0)) hr (by simp;omega)) ?_;have hlen:=raw_len d l[i].f1 hr;refine (ih2 (x ++ [1] ++ escL (bytesOf l[i].f0) ++ rawB d l[i].f1) (by simp;omega)).eq ?_;rw [List.flatMap_cons];simp
   rw [raw_at (d + 1) v _ (by rw [if_neg (by omega),if_neg h1,if_neg h2,if_neg h4])];simp only [if_neg h5,hi,Option.getD_some];simp
  have h0 : v.f0=0:=by omega
  refine Eve.one.eq ?_;rw [raw_at _ v [] (by rw [if_pos h0])]
theorem one_number (x : Int) : Eve (fun k => F8.f k x 1) (strOfNums [x % 256]):=by
 have h:=number_tells x 1 (by omega)
 have e : dig x 1=[x % 256]:=by
  show [shr .i64 x (8 * ((0 : Nat) : Int)) % 256]=[x % 256];rw [shr_zero]
 rw [e] at h;exact h
theorem raw_spec : ∀ (d : Nat) (v : IVal),rightV d v=true→Eve (fun k => F3.f k v.f0 v.f1 v.f2) (strOfNums (rawB d v)):=by
 intro d
 induction d with
 | zero =>
  intro v h;have hs:=right_shape 0 v h;have hk : 0≤v.f0∧v.f0≤5:=by unfold Shape at hs;omega
  have h3:=right_300 h;refine Eve.succ ?_;simp only [F3.f,w64 (i:=v.f0 + 1) (by omega) (by omega)];refine Eve.bind (one_number (v.f0 + 1)) ?_;refine Eve.ite (fun h0 => Eve.one.eq ?_) (fun h0 => ?_)
  ·
   rw [raw_at 0 v [] (by rw [if_pos h0])]
  refine Eve.ite (fun h1 => ?_) (fun h1 => ?_)
  ·
   refine Eve.bind (one_number v.f1) (Eve.ite (fun _ => Eve.one.eq ?_) (fun h => absurd (by rw [str_len,str_len];simp) h))
   rw [raw_at 0 v [v.f1 % 256] (by rw [if_neg (by omega),if_pos h1]),← str_app];rfl
  refine Eve.ite (fun h2 => ?_) (fun h2 => ?_)
  ·
   have hv : -1000000000000≤v.f1∧v.f1≤1000000000000:=by unfold Shape at hs;omega
   rw [w64 (i:=v.f1 + 4611686018427387904) (by omega) (by omega)];refine Eve.bind (number_tells _ 8 (by omega)) (Eve.ite (fun _ => Eve.one.eq ?_) (fun h => absurd (by rw [str_len,str_len];simp [dig_length]) h));rw [raw_at 0 v _ (by rw [if_neg (by omega),if_neg h1,if_pos h2]),← str_app];rfl
  refine Eve.ite (fun h4 => ?_) (fun h4 => ?_)
  ·
   have he:=escL_len (bytesOf v.f2)
   rw [bytesOf_length] at he;refine Eve.bind (esc_spec v.f2 (by omega)) (Eve.ite (fun _ => Eve.one.eq ?_) (fun h => absurd (by rw [str_len,str_len];simp;omega) h));rw [raw_at 0 v _ (by rw [if_neg (by omega),if_neg h1,if_neg h2,if_pos h4]),← str_app];rfl
  have h9 : flat v=true:=h;unfold flat at h9;rw [if_neg h0,if_neg h1,if_neg h2,if_neg h4] at h9
  cases h9
 | succ d ih =>
  intro v h;have hs:=right_shape _ v h;have hk : 0≤v.f0∧v.f0≤5:=by unfold Shape at hs;omega
  have h3:=right_300 h;refine Eve.succ ?_;simp only [F3.f,w64 (i:=v.f0 + 1) (by omega) (by omega)];refine Eve.bind (one_number (v.f0 + 1)) ?_;refine Eve.ite (fun h0 => Eve.one.eq ?_) (fun h0 => ?_)
  ·
   rw [raw_at _ v [] (by rw [if_pos h0])]
  refine Eve.ite (fun h1 => ?_) (fun h1 => ?_)
  ·
   refine Eve.bind (one_number v.f1) (Eve.ite (fun _ => Eve.one.eq ?_) (fun h => absurd (by rw [str_len,str_len];simp) h))
   rw [raw_at _ v [v.f1 % 256] (by rw [if_neg (by omega),if_pos h1]),← str_app];rfl
  refine Eve.ite (fun h2 => ?_) (fun h2 => ?_)
  ·
   have hv : -1000000000000≤v.f1∧v.f1≤1000000000000:=by unfold Shape at hs;omega
   rw [w64 (i:=v.f1 + 4611686018427387904) (by omega) (by omega)];refine Eve.bind (number_tells _ 8 (by omega)) (Eve.ite (fun _ => Eve.one.eq ?_) (fun h => absurd (by rw [str_len,str_len];simp [dig_length]) h));rw [raw_at _ v _ (by rw [if_neg (by omega),if_neg h1,if_pos h2]),← str_app];rfl
  refine Eve.ite (fun h4 => ?_) (fun h4 => ?_)
  ·
   have he:=escL_len (bytesOf v.f2)
   rw [bytesOf_length] at he;refine Eve.bind (esc_spec v.f2 (by omega)) (Eve.ite (fun _ => Eve.one.eq ?_) (fun h => absurd (by rw [str_len,str_len];simp;omega) h));rw [raw_at _ v _ (by rw [if_neg (by omega),if_neg h1,if_neg h2,if_pos h4]),← str_app];rfl
  refine Eve.ite (fun h5 => ?_) (fun h5 => ?_)
  ·
   obtain ⟨e,l,he2,hi,hl⟩:=right_four h h5
   obtain rfl : d=e:=by omega
   have hit:=items_spec _ v.f2 [] (Nat.le_refl _) (by omega) (by simp;omega);have hll:=(its_size _ _ l hi (by omega)).1;have htot:=its_esz _ _ l hi;rw [hi] at hit;simp only [Fj.f];refine Eve.bind hit ?_;simp only [toldL,List.nil_append];refine (ev_loop0 l (fun k (x : ByteArray) i => F3.l0 k x l i) (fun _ x r => x ++ strOfNums (r.flatMap (rawB d) ++ [0])) (fun i x => x.size + 3 * total esz (l.drop i)≤3999999) (fun x hx => ?_) (fun i hi x hx ih2 => ?_) (strOfNums [(v.f0 + 1) % 256]) (by rw [str_len];simp;omega)).eq ?_
   ·
    simp only [F3.l0]
    refine Eve.ite (fun h => absurd h (by omega)) (fun _ => ?_);refine Eve.ite (fun _ => Eve.one.eq rfl) (fun h => absurd (by omega) h)
   ·
    simp only [F3.l0,rdV l i hi,wi (show i≤9223372036854775806 by omega)]
    rw [total_drop esz l i hi] at hx;have hr:=List.all_eq_true.1 hl _ (List.getElem_mem hi);have hlen:=raw_len d l[i] hr;refine Eve.ite (fun _ => ?_) (fun h => absurd (by omega) h);refine Eve.ite (fun _ => ?_) (fun h => absurd (by omega) h);refine Eve.bind (ih l[i] hr) ?_;refine Eve.ite (fun _ => ?_) (fun h => absurd (by rw [str_len];omega) h);refine (ih2 (x ++ strOfNums (rawB d l[i])) (by rw [ByteArray.size_append,str_len];omega)).eq ?_;rw [List.flatMap_cons,List.append_assoc,str_app (rawB d l[i]),ByteArray.append_assoc]
   rw [← str_app,raw_at (d + 1) v _ (by rw [if_neg (by omega),if_neg h1,if_neg h2,if_neg h4])];simp only [h5,if_true,hi,Option.getD_some]
   rfl
  have h6 : v.f0=5:=by omega
  obtain ⟨e,l,he2,hi,hn,hl⟩:=right_five h h6;obtain rfl : d=e:=by omega
  have hit:=fields_spec _ v.f2 [] (Nat.le_refl _) (by omega) (by simp;omega);have hll:=fds_size _ _ l hi (by omega);have htot:=fds_esz _ _ l hi;rw [hi] at hit;simp only [Fi.f];refine Eve.bind hit ?_;simp only [toldF,List.nil_append];refine (ev_loop0 l (fun k (x : ByteArray) i => F3.l1 k x l i) (fun _ x r => x ++ strOfNums (r.flatMap (fun f => 1 :: (escL (bytesOf f.f0) ++ rawB d f.f1)) ++ [0])) (fun i x => x.size + 3 * total fsz (l.drop i)≤3999999) (fun x hx => ?_) (fun i hi x hx ih2 => ?_) (strOfNums [(v.f0 + 1) % 256]) (by rw [str_len];simp;omega)).eq ?_
  ·
   simp only [F3.l1]
   refine Eve.ite (fun h => absurd h (by omega)) (fun _ => ?_);refine Eve.ite (fun _ => Eve.one.eq rfl) (fun h => absurd (by omega) h)
  ·
   simp only [F3.l1,rdF l i hi,wi (show i≤9223372036854775806 by omega)]
   rw [total_drop fsz l i hi] at hx;have hf : fsz l[i]=1 + l[i].f0.size + esz l[i].f1:=rfl;have hr:=List.all_eq_true.1 hl _ (List.getElem_mem hi);have hsz:=hll.2 _ (List.getElem_mem hi);have hlen:=raw_len d l[i].f1 hr;have he:=escL_len (bytesOf l[i].f0);rw [bytesOf_length] at he;have hone : (⟨#[1]⟩ : ByteArray)=strOfNums [1]:=rfl;refine Eve.ite (fun _ => ?_) (fun h => absurd (by omega) h);refine Eve.ite (fun _ => ?_) (fun h => absurd (by omega) h);refine Eve.bind (esc_spec l[i].f0 hsz.1) ?_;rw [hone,← str_app];refine Eve.ite (fun _ => ?_) (fun h => absurd (by rw [str_len];omega) h);refine Eve.bind (ih l[i].f1 hr) ?_;rw [← str_app];refine Eve.ite (fun _ => ?_) (fun h => absurd (by rw [str_len,str_len];simp;omega) h);refine Eve.ite (fun _ => ?_) (fun h => absurd (by rw [str_len];simp;omega) h);refine (ih2 _ (by rw [ByteArray.size_append,str_len];simp;omega)).eq ?_;rw [ByteArray.append_assoc,← str_app,List.flatMap_cons]
   congr 2
   simp
  rw [← str_app,raw_at (d + 1) v _ (by rw [if_neg (by omega),if_neg h1,if_neg h2,if_neg h4])];simp only [if_neg h5,hi,Option.getD_some]
  rfl
def turnB (l : List Int) : List Int:=l.map (fun c => (255 - c) % 256)
def keyB (v : IVal) (desc : Bool) : List Int:=if desc=true then turnB (rawB 5 v) else rawB 5 v
theorem turn_spec (l : List Int) (hl : Byts l) (hn : l.length≤1048576) : Eve (fun k => F9.f k (strOfNums l)) (strOfNums (turnB l)):=by
 have hb:=bytes_str l hl;have hz:=str_len l;simp only [F9.f];refine (ev_loop0 l (fun k (x : List Int) i => F9.l0 k (strOfNums l) x i) (fun _ x r => strOfNums (x ++ turnB r)) (fun i x => x.length≤i) (fun x hx => ?_) (fun i hi x hx ih => ?_) [] (by simp)).eq (by simp)
 ·
  simp only [F9.l0]
  exact Eve.ite (fun h => absurd h (by omega)) (fun _ => Eve.one.eq (by simp [turnB]))
 have hi2 : i<(bytesOf (strOfNums l)).length:=by rw [hb];exact hi
 have hg : bt (strOfNums l) (i : Int)=l[i]:=bt_of l hl i hi;simp only [F9.l0,hg,wi (show i≤9223372036854775806 by omega)];refine Eve.ite (fun _ => ?_) (fun h => absurd (by omega) h);refine Eve.ite (fun _ => ?_) (fun h => absurd (by omega) h);refine Eve.ite (fun _ => ?_) (fun h => absurd (by omega) h);refine (ih (x ++ [(255 - l[i]) % 256]) (by simp;omega)).eq ?_;rw [show turnB (l[i] :: l.drop (i + 1))=(255 - l[i]) % 256 :: turnB (l.drop (i + 1)) from rfl,List.append_assoc]
 rfl
theorem fallen_tells (l : List Int) (desc : Bool) (hn : l.length≤1048576) : Fu.f l desc=some (strOfNums (if desc=true then turnB l else l)):=by
 unfold Fu.f;rw [if_pos (by omega)];have : Fu.row l l.length=turnB l:=by simp [Fu.row,turnB]
 rw [this]
theorem raw_909 {v : IVal} (h : rightV 5 v=true) : (rawB 5 v).length≤909:=by
 have h1:=raw_len 5 v h;have h2:=right_300 h;have h3 : esz v≤303:=by unfold esz;split;omega;split;omega;split;omega;omega
 omega
theorem keyOf_impl {v : IVal} (h : rightV 5 v=true) (desc : Bool) : Eve (fun k => F0b.f k v.f0 v.f1 v.f2 desc) (strOfNums (keyB v desc)):=by
 have h2:=right_300 h;have h3 : esz v≤303:=by unfold esz;split;omega;split;omega;split;omega;omega
 simp only [F0b.f];refine Eve.bind (key_impl 5 v [] h (by simp;omega)) ?_;rw [List.nil_append];simp only [fallen_tells (rawB 5 v) desc (by have:=raw_909 h;omega),Option.bind_some];exact Eve.one
theorem key_spec {v : IVal} (h : rightV 5 v=true) (desc : Bool) : Eve (fun k => F04.f k v.f0 v.f1 v.f2 desc) (strOfNums (keyB v desc)):=by
 simp only [F04.f];unfold keyB
 cases desc with
 | true =>
  simp only [if_true];refine Eve.bind (raw_spec 5 v h) ?_;exact Eve.bind (turn_spec _ (raw_in 5 v) (by have:=raw_909 h;omega)) Eve.one
 | false =>
  simp only [Bool.false_eq_true,if_false];exact Eve.bind (raw_spec 5 v h) Eve.one
def cutA (c : UInt8) : List UInt8→List UInt8→List (List UInt8)
 | acc,[] => [acc]
 | acc,b :: l => if b=c then acc :: cutA c [] l else cutA c (acc ++ [b]) l
def mkB (l : List UInt8) : ByteArray:=⟨l.toArray⟩
theorem mkB_of (s : ByteArray) : mkB s.data.toList=s:=by obtain ⟨⟨l⟩⟩:=s;rfl
theorem cutA_miss (c : UInt8) : ∀ (l acc : List UInt8),Lib.indexByte l c = -1→cutA c acc l=[acc ++ l]
 | [],acc,_ => by simp [cutA]
 | b :: l,acc,h => by
  unfold Lib.indexByte at h
  by_cases hb : b=c
  ·
   subst hb;simp at h
  have h1 : Lib.indexByte l c = -1:=by
   by_cases h2 : Lib.indexByte l c = -1
   ·
    exact h2
   have:=Lib.indexByte_ge l c;simp [hb,h2] at h
   omega
  rw [cutA,if_neg hb,cutA_miss c l _ h1];simp
theorem cutA_hit (c : UInt8) : ∀ (l acc : List UInt8) (i : Nat),Lib.indexByte l c=i→cutA c acc l=(acc ++ l.take i) :: cutA c [] (l.drop (i + 1))
 | [],acc,i,h => by simp [Lib.indexByte] at h
 | b :: l,acc,i,h => by
  unfold Lib.indexByte at h
  by_cases hb : b=c
  ·
   subst hb
   simp at h;obtain rfl : i=0:=by omega
   rw [cutA,if_pos rfl];simp
  by_cases h2 : Lib.indexByte l c = -1
  ·
   simp [hb,h2] at h
  have hge:=Lib.indexByte_ge l c;simp [hb,h2] at h;obtain ⟨j,rfl⟩ : ∃ j,i=j + 1:=⟨i - 1,by omega⟩;rw [cutA,if_neg hb,cutA_hit c l _ j (by omega)];simp
theorem splitK_cutA (c : UInt8) : ∀ (k : Nat) (l : List UInt8),Lib.count l [c]=k→Lib.splitK [c] 0 k l=cutA c [] l
 | 0,l,h => by
  have hm : Lib.indexByte l c = -1:=by
   by_cases h2 : Lib.indexByte l c = -1
   ·
    exact h2
   have hge:=Lib.indexByte_ge l c;have:=Lib.count_hit (sub:=[c]) (s:=l) (by simp) (i:=(Lib.indexByte l c).toNat) (by rw [Lib.index_one];omega)
   omega
  rw [cutA_miss c l [] hm];rfl
 | k + 1,l,h => by
  have hh : ¬ Lib.indexByte l c = -1:=fun e => by
   have:=Lib.count_miss (s:=l) (sub:=[c]) (by rw [Lib.index_one];exact e)
   omega
  have hge:=Lib.indexByte_ge l c;obtain ⟨i,hi⟩ : ∃ i : Nat,Lib.indexByte l c=i:=⟨(Lib.indexByte l c).toNat,by omega⟩;have hc:=Lib.count_hit (sub:=[c]) (s:=l) (by simp) (i:=i) (by rw [Lib.index_one];exact hi);have hlen : ([c] : List UInt8).length=1:=rfl;rw [cutA_hit c l [] i hi,Lib.splitK,if_neg (by rw [Lib.index_one];simpa using hh),Lib.index_one,hi,Int.toNat_natCast,Nat.add_zero,hlen,List.nil_append];rw [splitK_cutA c k (l.drop (i + 1)) (by rw [hlen] at hc;omega)]
theorem pieces_cutA (s : ByteArray) (c : UInt8) : pieces s ⟨#[c]⟩=(cutA c [] s.data.toList).map mkB:=by
 have h:=Lib.splitB_data ⟨#[c]⟩ 0 (Lib.countB s ⟨#[c]⟩) s;have h2 : Lib.splitK [c] 0 (Lib.countB s ⟨#[c]⟩) s.data.toList=cutA c [] s.data.toList:=splitK_cutA c _ _ rfl;have h3 : (pieces s ⟨#[c]⟩).map (·.data.toList)=cutA c [] s.data.toList:=h.trans h2;rw [← h3,List.map_map];have : (mkB ∘ fun x : ByteArray => x.data.toList)=id:=by funext x;exact mkB_of x
 rw [this,List.map_id]
theorem cutA_le (c : UInt8) : ∀ (l acc x : List UInt8),x ∈ cutA c acc l→x.length≤acc.length + l.length
 | [],acc,x,h => by simp [cutA] at h;subst h;simp
 | b :: l,acc,x,h => by
  unfold cutA at h
  split at h
  ·
   rcases List.mem_cons.1 h with rfl|h
   ·
    simp
   have:=cutA_le c l [] x h;simp at this ⊢;omega
  have:=cutA_le c l _ x h;simp at this ⊢;omega
theorem bt_data (s : ByteArray) (i : Nat) (h : i<s.data.toList.length) : bt s (i : Int)=((s.data.toList[i]).toNat : Int):=by
 have hs : i<s.size:=by simpa using h
 rw [← bt_at s (i : Int) (by simpa using hs)]
 rfl
theorem cut_spec (s : ByteArray) (hs : s.size≤1048576) : Eve (fun k => Fr.f k s 46) ((cutA 46 [] s.data.toList).map mkB):=by
 simp only [Fr.f];have hlen : s.data.toList.length=s.size:=by rw [Array.length_toList];rfl
 have hz : ((s.data.toList.length : Nat) : Int)=(s.size : Int):=by rw [hlen]
 have ext : ∀ a b : Nat,s.extract a b=mkB ((s.data.toList.take b).drop a):=fun a b => by
  have : (s.extract a b).data.toList=(s.data.toList.take b).drop a:=by
   rw [Lib.extract_data];simp [List.drop_take]
  rw [← mkB_of (s.extract a b),this]
 have key:=ev_loop0 s.data.toList (fun k (σ : List ByteArray×Int) i => Fr.l0 k s 46 σ.1 σ.2 i)
  (fun i σ rest => σ.1 ++ (cutA 46 ((s.data.toList.take i).drop σ.2.toNat) rest).map mkB)
  (fun i σ => 0≤σ.2∧σ.2≤i∧σ.1.length≤i) ?_ ?_ ([],0) ⟨by simp,by simp,by simp⟩
 ·
  simpa using key
 ·
  rintro ⟨out,from_⟩ ⟨h0,h1,h2⟩
  simp only at h0 h1 h2;simp only [Fr.l0];refine Eve.ite (fun h => absurd h (by omega)) (fun _ => ?_);refine Eve.ite (fun _ => ?_) (fun h => absurd h0 h);refine Eve.ite (fun _ => ?_) (fun h => absurd (by omega) h);refine Eve.ite (fun _ => Eve.one.eq ?_) (fun h => absurd (by omega) h);simp only [cutA,List.map_cons,List.map_nil];rw [ext,hlen]
 rintro i hi ⟨out,from_⟩ ⟨h0,h1,h2⟩ ih;simp only at h0 h1 h2;simp only [Fr.l0,bt_data s i hi];have hw : wrap64 ((i : Int) + 1)=((i + 1 : Nat) : Int):=by rw [w64] <;> omega
 have htk : s.data.toList.take (i + 1)=s.data.toList.take i ++ [s.data.toList[i]]:=by rw [List.take_succ_eq_append_getElem hi]
 refine Eve.ite (fun _ => ?_) (fun h => absurd (by omega) h);refine Eve.ite (fun _ => ?_) (fun h => absurd (by omega) h);refine Eve.ite (fun h => ?_) (fun h => ?_)
 ·
  have hc : s.data.toList[i]=46:=by
   have : (s.data.toList[i]).toNat=(46 : UInt8).toNat:=by
    have e : (46 : UInt8).toNat=46:=rfl
    omega
   exact UInt8.toNat_inj.mp this
  refine Eve.ite (fun _ => ?_) (fun h => absurd h0 h);refine Eve.ite (fun _ => ?_) (fun h => absurd h1 h);refine Eve.ite (fun _ => ?_) (fun h => absurd (by omega) h);refine Eve.ite (fun _ => ?_) (fun h => absurd (by omega) h);rw [hw];refine (ih (out ++ [s.extract from_.toNat (i : Int).toNat],((i + 1 : Nat) : Int)) ⟨by simp;omega,by simp,by simp;omega⟩).eq ?_;simp only [Int.toNat_natCast];have e1 : (s.data.toList.take (i + 1)).drop (i + 1)=[]:=List.drop_of_length_le (by simp;omega);rw [e1,cutA,if_pos hc,ext,List.map_cons,List.append_assoc]
  rfl
 have hc : ¬ s.data.toList[i]=46:=fun e => h (by rw [e];rfl);rw [hw];refine (ih (out,from_) ⟨h0,by show from_≤((i + 1 : Nat) : Int);omega,by show out.length≤i + 1;omega⟩).eq ?_;show out ++ _=out ++ (cutA 46 _ (s.data.toList[i] :: _)).map mkB;rw [cutA,if_neg hc,htk,List.drop_append_of_le_length (by simp;omega)]
theorem split_impl (s : ByteArray) (hs : s.size≤1048576) : strings_Split.f s (⟨#[46]⟩ : ByteArray)=some ((cutA 46 [] s.data.toList).map mkB):=by
 unfold strings_Split.f;rw [if_pos (show (⟨#[46]⟩ : ByteArray).size=1 from rfl),if_pos (by omega),pieces_cutA]
theorem Eve.list {α β : Type} (g : Nat→α→Option β) (q : α→β) : ∀ l : List α,(∀ x ∈ l,Eve (fun k => g k x) (q x)) → ∃ K,∀ k,K≤k → ∀ x ∈ l,g k x=some (q x)
 | [],_ => ⟨0,fun _ _ x hx => by simp at hx⟩
 | y :: l,h => by
  obtain ⟨K,hK⟩:=Eve.list g q l (fun x hx => h x (by simp [hx]));obtain ⟨K2,hK2⟩:=h y (by simp);refine ⟨max K K2,fun k hk x hx => ?_⟩;rcases List.mem_cons.1 hx with rfl|hx
  ·
   exact hK2 k (by omega)
  exact hK k (by omega) x hx
theorem cf_tells (l : List IVal) (q : IVal→Bool) (e : Int) (hl : l.length≤4194304) (h : ∀ x ∈ l,Eve (fun k => F5.f k x.f0 x.f1 x.f2 (wrap64 (e - 1))) (q x)) :
  Eve (fun k => Fg.f k (F5.f k) l e) (l.any (fun x => !q x)):=by
 obtain ⟨K,hK⟩:=Eve.list (fun k (x : IVal) => F5.f k x.f0 x.f1 x.f2 (wrap64 (e - 1))) q l h;refine ⟨max K (l.length + 1),fun k hk => ?_⟩;have hG : ∀ x ∈ l,F5.f k x.f0 x.f1 x.f2 (wrap64 (e - 1))=some (q x):=hK k (by omega);show Fg.f k (F5.f k) l e=_;generalize F5.f k=G at hG;unfold Fg.f Fw.f
 have:=first_loop (fun k i => Fw.l0 G k l (l.length : Int) i e) l (fun x => !q x) (fun k i hi => by
  have hx:=hG l[i] (List.getElem_mem hi);simp only [Fw.l0];rw [if_pos (by omega),if_pos (by omega),if_pos (by omega),rdV l i hi,wi (show i≤9223372036854775806 by omega)];unfold F0f.f;rw [hx]
  rfl) (fun k => by simp only [Fw.l0];rw [if_neg (by omega)]) l.length k 0 (by omega) (by omega)
 rw [show ((0 : Nat) : Int)=0 from rfl,List.drop_zero] at this;rw [this];simp only [Option.bind_some,first_any]
theorem any_not (l : List IVal) (q : IVal→Bool) : (!(l.any (fun x => !q x)))=l.all q:=by
 induction l with
 | nil => rfl
 | cons x l ih => simp only [List.any_cons,List.all_cons,← ih];cases q x <;> simp
theorem inner_loop (l : List IFld) (hl : l.length≤1048576) (hn : ∀ f ∈ l,f.f0.size≤1048576) (ok : Bool) : Eve (fun k => Fb.l0 k l ok [] l (l.length : Int) 0) (l.map (·.f1),ok && nms none l):=by
 have:=ev_loop0 l (fun k (s : Bool×List IVal) i => Fb.l0 k l s.1 s.2 l (l.length : Int) i) (fun i s r => (s.2 ++ r.map (·.f1),s.1 && nms (if i=0 then none else some (l.getD (i - 1) z70).f0) r)) (fun i s => s.2.length=i) (fun s _ => by
  simp only [Fb.l0]
  exact Eve.ite (fun h => absurd h (by omega)) (fun _ => Eve.one.eq (by simp [nms]))) (fun i hi s hI ih => by
  obtain ⟨b,out⟩:=s;simp only at hI;have hf:=hn l[i] (List.getElem_mem hi);have hnx:=fun b' => ih (b',out ++ [⟨l[i].f1.f0,l[i].f1.f1,l[i].f1.f2⟩]) (by simp;omega);simp only [Nat.add_one_ne_zero,if_false,Nat.add_sub_cancel,List.getD_eq_getElem?_getD,List.getElem?_eq_getElem hi,Option.getD_some] at hnx;have hout : ∀ r : List IFld,out ++ [(⟨l[i].f1.f0,l[i].f1.f1,l[i].f1.f2⟩ : IVal)] ++ r.map (·.f1)=out ++ (l[i] :: r).map (·.f1):=by intro r;simp
  simp only [Fb.l0];refine Eve.ite (fun _ => ?_) (fun h => absurd (by omega) h);refine Eve.ite (fun _ => ?_) (fun h => absurd (by omega) h);refine Eve.ite (fun _ => ?_) (fun h => absurd (by omega) h);simp only [rdF l i hi,wi (show i≤9223372036854775806 by omega)];refine Eve.ite (fun hb => ?_) (fun hb => ?_)
  ·
   refine Eve.bind (nam_impl _ hf) ?_
   refine Eve.ite (fun h1 => ?_) (fun h1 => ?_)
   ·
    refine Eve.ite (fun h2 => ?_) (fun h2 => ?_)
    ·
     obtain rfl : i=0:=by omega
     refine Eve.ite (fun _ => (hnx true).eq ?_) (fun h => absurd (by omega) h);rw [hout,if_pos rfl];simp only [nms,h1,hb,Bool.true_and]
    have hw : wrap64 ((i : Int) - 1)=((i - 1 : Nat) : Int):=by rw [w64 (by omega) (by omega)];omega
    simp only [hw];refine Eve.ite (fun _ => ?_) (fun h => absurd (by omega) h);refine Eve.ite (fun _ => ?_) (fun h => absurd (by omega) h);refine Eve.ite (fun _ => ?_) (fun h => absurd (by omega) h);have hi1 : i - 1<l.length:=by omega
    have hz : ¬ i=0:=by omega
    simp only [rdF l (i - 1) hi1];refine (hnx _).eq ?_;rw [hout,if_neg hz,List.getD_eq_getElem?_getD,List.getElem?_eq_getElem hi1,Option.getD_some];simp only [nms,h1,hb,Bool.true_and]
   refine Eve.ite (fun _ => (hnx false).eq ?_) (fun h => absurd (by omega) h);rw [hout];simp only [nms,Bool.eq_false_iff.mpr h1,Bool.false_and,Bool.and_false]
  refine Eve.ite (fun _ => (hnx false).eq ?_) (fun h => absurd (by omega) h);rw [hout]
  simp only [Bool.eq_false_iff.mpr hb,Bool.false_and]) (ok,[]) rfl
 exact this.eq (by simp)
theorem inner_four (v : IVal) (h4 : v.f0=4) (hs : v.f2.size≤1048576) : ∃ l ok,Eve (fun k => Fb.f k v.f0 v.f1 v.f2) (l,ok)∧l.length≤1048576∧(∀ x ∈ l,x.f2.size≤1048576) ∧
  ((itS v.f2.size v.f2=some l∧ok=true)∨(itS v.f2.size v.f2=none∧(ok=false ∨ ∃ x ∈ l,Bad x))):=by
 simp only [Fb.f,Ff.f,if_pos h4]
 cases hi : itS v.f2.size v.f2 with
 | some l =>
  obtain ⟨h1,h2⟩:=its_size _ _ l hi hs;exact ⟨l,true,(Eve.bind (items_some _ v.f2 [] l hi (by simp;omega)) Eve.one),by omega,h2,.inl ⟨rfl,rfl⟩⟩
 | none =>
  obtain ⟨l,ok,hl,hb,h1,h2⟩:=items_none _ v.f2 [] (Nat.le_refl _) hi (by simp;omega);exact ⟨l,ok,(Eve.bind hl Eve.one),by omega,h2,.inr ⟨rfl,hb⟩⟩
theorem inner_five (v : IVal) (h5 : v.f0=5) (hs : v.f2.size≤1048576) : ∃ l ok,Eve (fun k => Fb.f k v.f0 v.f1 v.f2) (l,ok)∧l.length≤1048576∧(∀ x ∈ l,x.f2.size≤1048576) ∧
  ((∃ fs,fdS v.f2.size v.f2=some fs∧l=fs.map (·.f1)∧ok=nms none fs)∨(fdS v.f2.size v.f2=none∧(ok=false ∨ ∃ x ∈ l,Bad x))):=by
 have h4 : ¬ v.f0=4:=by omega
 simp only [Fb.f,F7.f,if_neg h4]
 cases hi : fdS v.f2.size v.f2 with
 | some fs =>
  obtain ⟨h1,h2⟩:=fds_size _ _ fs hi hs;refine ⟨fs.map (·.f1),nms none fs,?_,by simp;omega,?_,.inl ⟨fs,rfl,rfl,rfl⟩⟩
  ·
   refine Eve.bind (fields_some _ v.f2 [] fs hi (by simp;omega)) ?_
   exact (inner_loop fs (by omega) (fun f hf => (h2 f hf).1) true).eq (by simp)
  intro x hx;obtain ⟨f,hf,rfl⟩:=List.mem_map.1 hx;exact (h2 f hf).2
 | none =>
  obtain ⟨fs,ok,hl,hb,h1,h2⟩:=fields_none _ v.f2 [] (Nat.le_refl _) hi (by simp;omega);refine ⟨fs.map (·.f1),ok && nms none fs,?_,by simp;omega,?_,.inr ⟨rfl,?_⟩⟩
  ·
   refine Eve.bind hl ?_
   exact inner_loop fs (by omega) (fun f hf => (h2 f hf).1) ok
  ·
   intro x hx
   obtain ⟨f,hf,rfl⟩:=List.mem_map.1 hx;exact (h2 f hf).2
  rcases hb with hb|⟨f,hf,hb⟩
  ·
   left;rw [hb];rfl
  right;exact ⟨f.f1,List.mem_map.2 ⟨f,hf,rfl⟩,hb⟩
theorem all_bad (l : List IVal) (q : IVal→Bool) (x : IVal) (hx : x ∈ l) (h : q x=false) : l.all q=false:=by
 rw [List.all_eq_false];exact ⟨x,hx,by simp [h]⟩
theorem nest_tells (v : IVal) (d : Nat) (l : List IVal) (ok : Bool) (hd : d≤1000) (h45 : v.f0=4∨v.f0=5) (hin : Eve (fun k => Fb.f k v.f0 v.f1 v.f2) (l,ok)) (hl : l.length≤1048576)
  (hq : ∀ x ∈ l,Eve (fun k => F5.f k x.f0 x.f1 x.f2 (d : Int)) (rightV d x)) :
  Eve (fun k => F5.f k v.f0 v.f1 v.f2 ((d + 1 : Nat) : Int)) (decide (v.f1=0) && (decide ((v.f2.size : Int)≤300) && (ok && l.all (rightV d)))):=by
 have hj : Eve (fun k => F5.j0 k true v.f0 v.f1 v.f2 ((d + 1 : Nat) : Int)) (decide (v.f1=0) && (decide ((v.f2.size : Int)≤300) && (ok && l.all (rightV d)))):=by
  refine Eve.succ ?_;simp only [F5.j0,if_true];refine Eve.bind hin ?_;refine Eve.ite (fun h1 => ?_) (fun h1 => Eve.one.eq (by simp [h1]));refine Eve.ite (fun h2 => ?_) (fun h2 => Eve.one.eq (by simp [h2]));refine Eve.ite (fun _ => ?_) (fun h => absurd (by omega) h);refine Eve.ite (fun h3 => ?_) (fun h3 => Eve.one.eq (by rw [show ok=false from Bool.eq_false_iff.mpr h3];simp));have hc:=cf_tells l (rightV d) ((d + 1 : Nat) : Int) (by omega) (fun x hx => by rw [dn d hd];exact hq x hx);refine Eve.bind hc (Eve.one.eq ?_);rw [any_not,show ok=true from h3];simp [h1,h2]
 refine Eve.succ ?_;simp only [F5.f];rcases h45 with h|h
 ·
  simp only [h] at hj ⊢
  simp only [show ¬ (4 : Int)=0 by omega,show ¬ (4 : Int)=1 by omega,show ¬ (4 : Int)=2 by omega,show ¬ (4 : Int)=3 by omega,if_false,if_true,beq_self_eq_true];exact hj
 simp only [h] at hj ⊢;simp only [show ¬ (5 : Int)=0 by omega,show ¬ (5 : Int)=1 by omega,show ¬ (5 : Int)=2 by omega,show ¬ (5 : Int)=3 by omega,show ¬ (5 : Int)=4 by omega,if_false,beq_self_eq_true];exact hj
theorem nest_zero (v : IVal) (l : List IVal) (ok : Bool) (h45 : v.f0=4∨v.f0=5) (hin : Eve (fun k => Fb.f k v.f0 v.f1 v.f2) (l,ok)) : Eve (fun k => F5.f k v.f0 v.f1 v.f2 ((0 : Nat) : Int)) false:=by
 have hj : Eve (fun k => F5.j0 k true v.f0 v.f1 v.f2 ((0 : Nat) : Int)) false:=by
  refine Eve.succ ?_;simp only [F5.j0,if_true];refine Eve.bind hin ?_;refine Eve.ite (fun _ => ?_) (fun _ => Eve.one);refine Eve.ite (fun _ => ?_) (fun _ => Eve.one);exact Eve.ite (fun h => absurd h (by omega)) (fun _ => Eve.one)
 refine Eve.succ ?_;simp only [F5.f];rcases h45 with h|h
 ·
  simp only [h] at hj ⊢
  simp only [show ¬ (4 : Int)=0 by omega,show ¬ (4 : Int)=1 by omega,show ¬ (4 : Int)=2 by omega,show ¬ (4 : Int)=3 by omega,if_false,if_true,beq_self_eq_true];exact hj
 simp only [h] at hj ⊢;simp only [show ¬ (5 : Int)=0 by omega,show ¬ (5 : Int)=1 by omega,show ¬ (5 : Int)=2 by omega,show ¬ (5 : Int)=3 by omega,show ¬ (5 : Int)=4 by omega,if_false,beq_self_eq_true];exact hj
theorem right_impl : ∀ (d : Nat) (v : IVal),d≤1000→v.f2.size≤1048576→Eve (fun k => F5.f k v.f0 v.f1 v.f2 (d : Int)) (rightV d v):=by
 intro d
 induction d with
 | zero =>
  intro v hd hs
  by_cases h4 : v.f0=4
  ·
   obtain ⟨l,ok,hin,_⟩:=inner_four v h4 hs
   refine (nest_zero v l ok (.inl h4) hin).eq ?_;show false=flat v;unfold flat;rw [if_neg (by omega),if_neg (by omega),if_neg (by omega),if_neg (by omega)]
  by_cases h5 : v.f0=5
  ·
   obtain ⟨l,ok,hin,_⟩:=inner_five v h5 hs
   refine (nest_zero v l ok (.inr h5) hin).eq ?_;show false=flat v;unfold flat;rw [if_neg (by omega),if_neg (by omega),if_neg (by omega),if_neg (by omega)]
  exact impl_flat v _ h4 h5
 | succ d ih =>
  intro v hd hs
  by_cases h4 : v.f0=4
  ·
   obtain ⟨l,ok,hin,hl,hsz,hc⟩:=inner_four v h4 hs
   refine (nest_tells v d l ok (by omega) (.inl h4) hin hl (fun x hx => ih x (by omega) (hsz x hx))).eq ?_;unfold rightV;rw [if_pos h4];rcases hc with ⟨hi,rfl⟩|⟨hi,hb⟩
   ·
    rw [hi];simp
   rw [hi];rcases hb with rfl|⟨x,hx,hb⟩
   ·
    simp
   rw [all_bad l (rightV d) x hx (bad_right x hb d)];simp
  by_cases h5 : v.f0=5
  ·
   obtain ⟨l,ok,hin,hl,hsz,hc⟩:=inner_five v h5 hs
   refine (nest_tells v d l ok (by omega) (.inr h5) hin hl (fun x hx => ih x (by omega) (hsz x hx))).eq ?_;unfold rightV;rw [if_neg h4,if_pos h5];rcases hc with ⟨fs,hi,rfl,rfl⟩|⟨hi,hb⟩
   ·
    rw [hi,List.all_map];rfl
   rw [hi];rcases hb with rfl|⟨x,hx,hb⟩
   ·
    simp
   rw [all_bad l (rightV d) x hx (bad_right x hb d)];simp
  unfold rightV;rw [if_neg h4,if_neg h5];exact impl_flat v _ h4 h5
theorem right_small (d : Nat) (v : IVal) (h : 300<v.f2.size) : rightV d v=false:=by
 have he : emB v.f2=false:=by
  have : ¬ v.f2.toList=([] : List UInt8):=fun e => by have:=(emp _).1 e;omega
  simpa [emB] using this
 have hz : decide ((v.f2.size : Int)≤300)=false:=by simp;omega
 have hf : flat v=false:=by
  unfold flat;rw [he,hz]
  repeat' split
  all_goals simp
 cases d with
 | zero => exact hf
 | succ d =>
  unfold rightV;rw [hz,hf]
  repeat' split
  all_goals simp
theorem ok_impl (v : IVal) (hs : v.f2.size≤1048576) : Eve (fun k => F08.f k v.f0 v.f1 v.f2) (rightV 5 v):=by
 simp only [F08.f];exact Eve.bind (right_impl 5 v (by omega) hs) Eve.one
theorem ok_spec (v : IVal) (hs : v.f2.size≤1048576) : Eve (fun k => F07.f k v.f0 v.f1 v.f2) (rightV 5 v):=by
 simp only [F07.f];refine Eve.ite (fun _ => Eve.bind (right_spec 5 v (by omega) hs) Eve.one) (fun h => Eve.one.eq ?_);rw [right_small 5 v (by omega)]
def names (s : ByteArray) : List ByteArray:=(cutA 46 [] s.data.toList).map mkB
theorem names_le (s : ByteArray) (x : ByteArray) (h : x ∈ names s) : x.size≤s.size:=by
 obtain ⟨l,hl,rfl⟩:=List.mem_map.1 h;have:=cutA_le 46 s.data.toList [] l hl;show l.toArray.size≤s.data.size
 simpa using this
def pth (s : ByteArray) : Bool:=decide ((s.size : Int)≤50) && (decide (((names s).length : Int)≤4) && (names s).all nam)
theorem pth_loop (l : List ByteArray) (hl : ∀ x ∈ l,x.size≤1048576) (hn : l.length≤1048576) : Eve (fun k => Fe.l0 k l 0) (l.all nam):=by
 refine ev_all l (fun k i => Fe.l0 k l i) nam ?_ ?_
 ·
  simp only [Fe.l0]
  exact Eve.ite (fun h => absurd h (by omega)) (fun _ => Eve.one)
 intro i hi v ih;simp only [Fe.l0];refine Eve.ite (fun _ => ?_) (fun h => absurd (by omega) h);refine Eve.ite (fun _ => ?_) (fun h => absurd (by omega) h);rw [rdOf_at _ _ _ hi];refine Eve.bind (nam_spec l[i] (hl _ (List.getElem_mem hi))) ?_;rw [show wrap64 ((i : Int) + 1)=((i + 1 : Nat) : Int) by rw [w64] <;> omega];refine Eve.ite (fun h => ih.eq (by rw [h];simp)) (fun h => Eve.one.eq (by simp at h;rw [h];simp))
theorem names_len (s : ByteArray) : (names s).length≤s.size + 1:=by
 have : ∀ (l acc : List UInt8),(cutA 46 acc l).length≤l.length + 1:=by
  intro l
  induction l with
  | nil => intro acc;simp [cutA]
  | cons b l ih =>
   intro acc;unfold cutA
   split
   ·
    have:=ih [];simp;omega
   have:=ih (acc ++ [b]);simp;omega
 have h:=this s.data.toList [];have hlen : s.data.toList.length=s.size:=by rw [Array.length_toList];rfl
 unfold names;rw [List.length_map]
 omega
theorem pth_spec (s : ByteArray) (hs : s.size≤1048576) : Eve (fun k => Fe.f k s) (pth s):=by
 simp only [Fe.f];refine Eve.ite (fun h => Eve.one.eq (by unfold pth;rw [decide_eq_false (by omega)];rfl)) (fun h1 => ?_);refine Eve.bind (cut_spec s hs) ?_;have hl:=pth_loop (names s) (fun x hx => Nat.le_trans (names_le s x hx) hs) (by have:=names_len s;omega);change Eve _ _ at hl;refine Eve.ite (fun h => ?_) (fun h => ?_)
 ·
  refine Eve.succ ?_
  simp only [Fe.j0,if_true];refine Eve.one.eq ?_;unfold pth;rw [decide_eq_false (p:=((names s).length : Int)≤4) (by unfold names;omega)];simp
 refine Eve.succ ?_;simp only [Fe.j0,decide_eq_true_eq];refine Eve.ite (fun h2 => Eve.one.eq ?_) (fun h2 => hl.eq ?_)
 ·
  unfold pth;rw [decide_eq_false (p:=(s.size : Int)≤50) (by omega)];rfl
 unfold pth;rw [decide_eq_true (p:=(s.size : Int)≤50) (by omega),decide_eq_true (p:=((names s).length : Int)≤4) (by unfold names;omega)];rfl
theorem pth_index (l : List ByteArray) (hl : ∀ x ∈ l,x.size≤1048576) (hn : l.length≤1048576) : Eve (fun k => F0d.f k l) (!(l.all nam)):=by
 simp only [F0d.f,Fx.f];have hi:=ev_loop0 l (fun k (_ : Unit) i => Fx.l0 k l (l.length : Int) i) (fun i _ r => first (fun x => !(nam x)) r i) (fun _ _ => True) ?_ ?_ () trivial
 ·
  refine Eve.bind hi ?_
  refine Eve.one.eq ?_;have h:=first_any (fun x => !(nam x)) l 0;have h2 : (l.any fun x => !(nam x)) = !(l.all nam):=by rw [List.all_eq_not_any_not];simp
  rw [← h2,← h]
 ·
  intro _ _
  simp only [Fx.l0];exact Eve.ite (fun h => absurd h (by omega)) (fun _ => Eve.one)
 intro i hi _ _ ih;have ih:=ih () trivial;simp only [Fx.l0];refine Eve.ite (fun _ => ?_) (fun h => absurd (by omega) h);refine Eve.ite (fun _ => ?_) (fun h => absurd (by omega) h);refine Eve.ite (fun _ => ?_) (fun h => absurd (by omega) h);rw [rdOf_at _ _ _ hi];simp only [F0e.f];refine Eve.bind (v:=!(nam l[i])) (Eve.bind (nam_impl l[i] (hl _ (List.getElem_mem hi))) Eve.one) ?_;rw [show wrap64 ((i : Int) + 1)=((i + 1 : Nat) : Int) by rw [w64] <;> omega];refine Eve.ite (fun h => Eve.one.eq (by simp [first,h])) (fun h => ih.eq (by simp [first,h]))
theorem pth_impl (s : ByteArray) (hs : s.size≤1048576) : Eve (fun k => Fy.f k s) (pth s):=by
 simp only [Fy.f,split_impl s hs,Option.bind_some];unfold pth;refine Eve.ite (fun h => ?_) (fun h => Eve.one.eq (by rw [decide_eq_false h];rfl));rw [decide_eq_true h];refine Eve.ite (fun h2 => ?_) (fun h2 => Eve.one.eq (by rw [decide_eq_false (p:=((names s).length : Int)≤4) h2];rfl));rw [decide_eq_true (p:=((names s).length : Int)≤4) h2];refine Eve.bind (pth_index (names s) (fun x hx => Nat.le_trans (names_le s x hx) hs) (by have:=names_len s;omega)) ?_;exact Eve.one.eq (by simp)
abbrev LVal:=S23

def iv (v : LVal) : IVal:=⟨v.f0,v.f1,v.f2⟩
theorem szValue_tells (v : LVal) (h : v.f2.size≤9223372036854775807) {left : Int} (h0 : 0≤left) (h1 : left≤1048576) :
  F0n.f v.f0 v.f1 v.f2 left=some (if left - v.f2.size<0 then -1 else left - v.f2.size):=by
 unfold F0n.f;rw [w64 (by omega) (by omega)]
 split <;> rfl
theorem toValue_tells (v : LVal) : F0q.f v.f0 v.f1 v.f2=some (v.f0,v.f1,v.f2):=rfl
def trmK (op : Int) (v : IVal) : Bool :=
 if op=7 then v.f0 == 4 else if op=8 then v.f0 == 1 else if op=9 then (decide (v.f0=2) && inr v.f1 0 5) else if op=10 then (decide (v.f0=2) && decide (v.f1 ≥ 0)) else inr op 1 6
def trmV (op : Int) (p : ByteArray) (v : IVal) : Bool:=pth p && (rightV 5 v && trmK op v)
theorem pth_big (p : ByteArray) (h : (p.size : Int) > 65536) : pth p=false:=by unfold pth;rw [decide_eq_false (by omega)];rfl
theorem trm_no (a : Int) (b : ByteArray) (c d : Int) (e : ByteArray) : Eve (fun k => Fa.j0 k true a b c d e) false :=
 Eve.succ (by simp only [Fa.j0,if_true];exact Eve.one)
theorem trm_no2 (a : Int) (b : ByteArray) (c d : Int) (e : ByteArray) : Eve (fun k => Fo.j0 k true a b c d e) false :=
 Eve.succ (by simp only [Fo.j0,if_true];exact Eve.one)
theorem trm_j1 (op : Int) (b : Bool) (p : ByteArray) (v : IVal) (hb : b=inr op 1 6) : Eve (fun k => Fa.j1 k op b op p v.f0 v.f1 v.f2) (trmK op v):=by
 refine Eve.succ ?_;simp only [Fa.j1,in_spec,Option.bind_some];refine Eve.ite (fun h => Eve.one.eq ?_) (fun h => ?_)
 ·
  rw [hb] at h
  have h' : 1≤op∧op≤6:=by unfold inr at h;simpa using h
  unfold trmK;rw [if_neg (by omega),if_neg (by omega),if_neg (by omega),if_neg (by omega),h]
 have h0 : inr op 1 6=false:=by rw [hb] at h;simpa using h
 unfold trmK;refine Eve.ite (fun h7 => Eve.one.eq (by rw [if_pos h7])) (fun h7 => ?_);rw [if_neg h7];refine Eve.ite (fun h8 => Eve.one.eq (by rw [if_pos h8])) (fun h8 => ?_);rw [if_neg h8];refine Eve.ite (fun h9 => ?_) (fun h9 => ?_)
 ·
  rw [if_pos h9]
  exact Eve.ite (fun h => Eve.one.eq (by simp [h])) (fun h => Eve.one.eq (by simp [h]))
 rw [if_neg h9];refine Eve.ite (fun h10 => ?_) (fun h10 => Eve.one.eq (by rw [if_neg h10,h0]));rw [if_pos h10];exact Eve.ite (fun h => Eve.one.eq (by simp [h])) (fun h => Eve.one.eq (by simp [h]))
theorem trm_spec (op : Int) (p : ByteArray) (v : IVal) (hp : p.size≤1048576) (hv : v.f2.size≤1048576) : Eve (fun k => Fa.f k op p v.f0 v.f1 v.f2) (trmV op p v):=by
 simp only [Fa.f];refine Eve.ite (fun h2 => (trm_no _ _ _ _ _).eq (by unfold trmV;rw [pth_big p h2];rfl)) (fun h2 => ?_);refine Eve.bind (pth_spec p hp) ?_;refine Eve.ite (fun h3 => ?_) (fun h3 => (trm_no _ _ _ _ _).eq (by unfold trmV;simp at h3;rw [h3];rfl));refine Eve.bind (ok_spec v hv) ?_;refine Eve.succ ?_;simp only [Fa.j0];refine Eve.ite (fun h5 => Eve.one.eq (by unfold trmV;simp at h5;simp [h5])) (fun h5 => ?_);have h5' : rightV 5 v=true:=by simpa using h5
 unfold trmV;simp only [h3,h5',Bool.true_and];have hi : ∀ j : Int,1≤j→j≤5→op=j→(op == j)=inr op 1 6:=fun j h1 h2 h => by subst h;unfold inr;simp;omega
 refine Eve.ite (fun h => trm_j1 op _ p v (hi 1 (by omega) (by omega) h)) (fun n1 => ?_);refine Eve.ite (fun h => trm_j1 op _ p v (hi 2 (by omega) (by omega) h)) (fun n2 => ?_);refine Eve.ite (fun h => trm_j1 op _ p v (hi 3 (by omega) (by omega) h)) (fun n3 => ?_);refine Eve.ite (fun h => trm_j1 op _ p v (hi 4 (by omega) (by omega) h)) (fun n4 => ?_);refine Eve.ite (fun h => trm_j1 op _ p v (hi 5 (by omega) (by omega) h)) (fun n5 => ?_);refine trm_j1 op _ p v ?_
 by_cases h6 : op=6
 ·
  subst h6;rfl
 have hf : inr op 1 6=false:=by
  unfold inr
  by_cases h1 : 1≤op
  ·
   rw [decide_eq_true h1,decide_eq_false (by omega)];rfl
  rw [decide_eq_false h1];rfl
 rw [hf];simpa using h6
theorem trm_impl (op : Int) (p : ByteArray) (v : IVal) (hp : p.size≤1048576) (hv : v.f2.size≤1048576) : Eve (fun k => Fo.f k op p v.f0 v.f1 v.f2) (trmV op p v):=by
 simp only [Fo.f];refine Eve.bind (pth_impl p hp) ?_;refine Eve.ite (fun h3 => ?_) (fun h3 => (trm_no2 _ _ _ _ _).eq (by unfold trmV;simp at h3;rw [h3];rfl));refine Eve.bind (ok_impl v hv) ?_;refine Eve.succ ?_;simp only [Fo.j0,in_impl,Option.bind_some];refine Eve.ite (fun h5 => Eve.one.eq (by unfold trmV;simp at h5;simp [h5])) (fun h5 => ?_);have h5' : rightV 5 v=true:=by simpa using h5
 unfold trmV trmK;simp only [h3,h5',Bool.true_and];refine Eve.ite (fun h7 => Eve.one.eq (by rw [if_pos h7])) (fun h7 => ?_);rw [if_neg h7];refine Eve.ite (fun h8 => Eve.one.eq (by rw [if_pos h8])) (fun h8 => ?_);rw [if_neg h8];refine Eve.ite (fun h9 => ?_) (fun h9 => ?_)
 ·
  rw [if_pos h9]
  exact Eve.ite (fun h => Eve.one.eq (by simp [h])) (fun h => Eve.one.eq (by simp [h]))
 rw [if_neg h9];refine Eve.ite (fun h10 => ?_) (fun h10 => Eve.one.eq (by rw [if_neg h10]));rw [if_pos h10];exact Eve.ite (fun h => Eve.one.eq (by simp [h])) (fun h => Eve.one.eq (by simp [h]))
end Go.Proofs.YthjgfjlogilleabDoor.Pure
end
section
namespace Go.Proofs.YthjgfjlogilleabDoor.Pure
open Go Go.RowKit Go.Proofs.YthjgfjlogilleabDoor.Q Go.Proofs.YthjgfjlogilleabDoorW.PrintWords Go.Proofs.YthjgfjlogilleabDoorW.PrintLast Go.Proofs.YthjgfjlogilleabDoorW.PrintMore Go.Proofs.YthjgfjlogilleabDoorW.Pl
set_option linter.unusedSimpArgs false
def beh (s : ByteArray) : Nat→ByteArray×Bool
 | 0 => (⟨#[]⟩,false)
 | n + 1 => if bt s (n : Int)<255 then (s.extract 0 n ++ strOfNums [(bt s (n : Int) + 1) % 256],true) else beh s n
theorem one_len (x : Int) : (strOfNums [x]).size=1:=by rw [str_len];rfl
theorem beh_spec (s : ByteArray) (hs : s.size≤1048576) : ∀ n,n≤s.size→Eve (fun k => Fm.l0 k s (n : Int)) (beh s n):=by
 intro n
 induction n with
 | zero =>
  intro _;refine Eve.succ ?_;simp only [Fm.l0];exact Eve.ite (fun h => absurd h (by omega)) (fun _ => Eve.one)
 | succ n ih =>
  intro hn;refine Eve.succ ?_;simp only [Fm.l0,show ((n + 1 : Nat) : Int) - 1=(n : Int) by omega,w64 (i:=(n : Int)) (by omega) (by omega),Option.bind_some,Int.toNat_natCast];unfold beh;refine Eve.ite (fun _ => ?_) (fun h => absurd (by omega) h);refine Eve.ite (fun _ => ?_) (fun h => absurd (by omega) h);refine Eve.ite (fun _ => ?_) (fun h => absurd (by omega) h);refine Eve.ite (fun h => ?_) (fun h => ?_)
  ·
   rw [if_pos h]
   refine Eve.ite (fun _ => ?_) (fun h => absurd (by omega) h);refine Eve.ite (fun _ => Eve.one) (fun h => absurd (by rw [one_len,ByteArray.size_extract];omega) h)
  rw [if_neg h];exact ih (by omega)
theorem behind_tells (s : ByteArray) (hs : s.size≤1048576) : Eve (fun k => Ft.f k s) (s,(beh s s.size).1,!(beh s s.size).2):=by
 simp only [Ft.f,Fm.f];exact Eve.bind (beh_spec s hs s.size (Nat.le_refl _)) Eve.one
theorem beh_impl (s : ByteArray) (hs : s.size≤1048576) : ∀ n,n≤s.size→Eve (fun k => Fd.l0 k s ((n : Int) - 1)) (s,(beh s n).1,!(beh s n).2):=by
 intro n
 induction n with
 | zero =>
  intro _;refine Eve.succ ?_;simp only [Fd.l0];exact Eve.ite (fun h => absurd h (by omega)) (fun _ => Eve.one)
 | succ n ih =>
  intro hn;refine Eve.succ ?_;simp only [Fd.l0,show ((n + 1 : Nat) : Int) - 1=(n : Int) by omega,w64 (i:=(n : Int) - 1) (by omega) (by omega),Option.bind_some,Int.toNat_natCast];unfold beh;refine Eve.ite (fun _ => ?_) (fun h => absurd (by omega) h);refine Eve.ite (fun _ => ?_) (fun h => absurd (by omega) h);refine Eve.ite (fun _ => ?_) (fun h => absurd (by omega) h);refine Eve.ite (fun h => ?_) (fun h => ?_)
  ·
   rw [if_pos h]
   refine Eve.ite (fun _ => ?_) (fun h => absurd (by omega) h);refine Eve.ite (fun _ => Eve.one) (fun h => absurd (by rw [one_len,ByteArray.size_extract];omega) h)
  rw [if_neg h];exact ih (by omega)
theorem begins_tells (s : ByteArray) (hs : s.size≤1048576) : Eve (fun k => Fd.f k s) (s,(beh s s.size).1,!(beh s s.size).2):=by
 simp only [Fd.f,w64 (i:=(s.size : Int) - 1) (by omega) (by omega)];exact beh_impl s hs s.size (Nat.le_refl _)
theorem beh_first (s : ByteArray) (h : bt s 0<255) : ∀ n,1≤n→n≤s.size→(beh s n).2=true∧((beh s n).1=strOfNums [(bt s 0 + 1) % 256] ∨ ∃ r,(beh s n).1.toList=(bt s 0).toNat.toUInt8 :: r):=by
 intro n
 induction n with
 | zero => intro h;omega
 | succ n ih =>
  intro _ hn;unfold beh
  by_cases hb : bt s (n : Int)<255
  ·
   rw [if_pos hb]
   refine ⟨rfl,?_⟩
   by_cases hz : n=0
   ·
    subst hz
    left
    show s.extract 0 0 ++ _=_
    have : s.extract 0 0=⟨#[]⟩:=by
     apply ba_ext;rw [ba_toList,ba_toList,Lib.extract_data];simp
    rw [this];apply ba_ext;rw [ba_toList,ba_toList,ByteArray.data_append];simp
   right
   refine ⟨((s.data.toList.drop 1).take (n - 1)) ++ (strOfNums [(bt s (n : Int) + 1) % 256]).data.toList,?_⟩;show (s.extract 0 n ++ strOfNums [(bt s (n : Int) + 1) % 256]).toList=_;rw [ba_toList,ByteArray.data_append,Array.toList_append]
   have h0 : (s.extract 0 n).data.toList=(bt s 0).toNat.toUInt8 :: ((s.data.toList.drop 1).take (n - 1)):=by
    rw [Lib.extract_data];have hl : 0<s.data.toList.length:=by rw [Array.length_toList];show 0<s.size;omega
    have hbt:=bt_at s 0 (by show (0 : Int).toNat<s.size;simp;omega);rw [← hbt];obtain ⟨⟨l⟩⟩:=s
    cases l with
    | nil => simp at hl
    | cons b l =>
     obtain ⟨m,rfl⟩ : ∃ m,n=m + 1:=⟨n - 1,by omega⟩;simp
     rfl
   rw [h0];rfl
  rw [if_neg hb]
  by_cases hz : n=0
  ·
   subst hz;exact absurd h hb
  exact ih (by omega) (by omega)
theorem bl_cons_ge (a b : UInt8) (x y : List UInt8) (h : b<a) : Op.bytesLess (a :: x) (b :: y)=false:=by
 have h1 : ¬ a<b:=by rw [UInt8.lt_iff_toNat_lt] at *;omega
 have h2 : (a == b)=false:=by
  have : a≠b:=fun e => by subst e;exact UInt8.lt_irrefl _ h
  simpa using this
 simp [Op.bytesLess,h1,h2]
theorem mxs_none (x : ByteArray) : mxs x (⟨#[]⟩ : ByteArray)=x:=by
 have : Op.bytesLess x.toList (⟨#[]⟩ : ByteArray).toList=false:=by
  rw [show (⟨#[]⟩ : ByteArray).toList=[] by rw [ba_toList]]
  cases x.toList <;> rfl
 unfold mxs;rw [this];rfl
theorem mns_at {x y : ByteArray} (h : Op.bytesLess x.toList y.toList=false) : mns x y=y:=by
 unfold mns;rw [h,Bool.false_or]
 by_cases e : (x.toList == y.toList)=true
 ·
  rw [if_pos e];exact ba_ext (eq_of_beq e)
 rw [if_neg e]
theorem one_list (x : Int) : (strOfNums [x]).toList=[x.toNat.toUInt8]:=by
 rw [ba_toList];rfl
def hd (v : IVal) (desc : Bool) : Int:=if desc=true then (255 - (v.f0 + 1) % 256) % 256 else (v.f0 + 1) % 256
theorem key_head (v : IVal) (desc : Bool) : ∃ r,keyB v desc=hd v desc :: r:=by
 have : ∃ r,rawB 5 v=(v.f0 + 1) % 256 :: r:=⟨_,rfl⟩;obtain ⟨r,hr⟩:=this;unfold keyB hd
 cases desc with
 | true => exact ⟨turnB r,by simp only [if_true,hr];rfl⟩
 | false => exact ⟨r,by simp only [Bool.false_eq_true,if_false,hr]⟩
theorem key_in (v : IVal) (desc : Bool) : Byts (keyB v desc):=by
 unfold keyB
 cases desc with
 | true =>
  simp only [if_true];intro b hb;obtain ⟨c,_,rfl⟩:=List.mem_map.1 hb
  omega
 | false => simp only [Bool.false_eq_true,if_false];exact raw_in 5 v
theorem key_909 {v : IVal} (h : rightV 5 v=true) (desc : Bool) : (keyB v desc).length≤909:=by
 have:=raw_909 h;unfold keyB turnB
 cases desc <;> simp <;> omega
theorem turned_one (x : Int) (hx : 0≤x∧x≤255) (desc : Bool) : Eve (fun k => F02.f k (strOfNums [x]) desc) (strOfNums [if desc=true then (255 - x) % 256 else x]):=by
 simp only [F02.f]
 cases desc with
 | true =>
  simp only [if_true];exact Eve.bind (turn_spec [x] (fun b hb => by simp at hb;omega) (by simp)) Eve.one
 | false => simp only [Bool.false_eq_true,if_false];exact Eve.one
abbrev Ivl:=ByteArray×ByteArray×Bool
def begI (s : ByteArray) : Ivl:=(s,(beh s s.size).1,!(beh s s.size).2)
def eI : Ivl:=(⟨#[]⟩,⟨#[]⟩,true)
def ivlV (op : Int) (v : IVal) (desc : Bool) : Ivl :=
 let kb:=strOfNums [hd v desc]
 let key:=strOfNums (keyB v desc)
 if op=1 then begI key
 else if op=9 then begI (strOfNums [if desc=true then (255 - (v.f1 + 1) % 256) % 256 else (v.f1 + 1) % 256])
 else if op=(if desc=true then 3 else 5) then ((beh key key.size).1,(begI kb).2)
 else if op=(if desc=true then 4 else 6) then (key,(begI kb).2)
 else if op=(if desc=true then 5 else 3) then (kb,key,(begI kb).2.2)
 else if op=(if desc=true then 6 else 4) then (kb,(beh key key.size).1,(begI kb).2.2)
 else eI
theorem begI_tells (s : ByteArray) (hs : s.size≤1048576) : Eve (fun k => Fd.f k s) (begI s):=begins_tells s hs
theorem begI_spec (s : ByteArray) (hs : s.size≤1048576) : Eve (fun k => Ft.f k s) (begI s):=behind_tells s hs
theorem begI_tells3 (s : ByteArray) (hs : s.size≤1048576) : Eve (fun k => (Fd.f k s).bind fun b => some (b.1,b.2.1,b.2.2)) (begI s):=by
 have h:=begI_tells s hs;generalize begI s=B at h ⊢;obtain ⟨a,b,c⟩:=B;exact Eve.bind h Eve.one
theorem begI_spec3 (s : ByteArray) (hs : s.size≤1048576) : Eve (fun k => (Ft.f k s).bind fun b => some (b.1,b.2.1,b.2.2)) (begI s):=by
 have h:=begI_spec s hs;generalize begI s=B at h ⊢;obtain ⟨a,b,c⟩:=B;exact Eve.bind h Eve.one
theorem begI_fst (s : ByteArray) : (begI s).1=s:=rfl
theorem key_facts {v : IVal} (h : rightV 5 v=true) (desc : Bool) : (strOfNums (keyB v desc)).size≤1048576∧1≤(strOfNums (keyB v desc)).size∧(strOfNums (keyB v desc)).extract 0 1=strOfNums [hd v desc] ∧
  bt (strOfNums (keyB v desc)) 0=hd v desc∧bt (strOfNums [hd v desc]) 0=hd v desc∧0≤hd v desc∧hd v desc<255:=by
 obtain ⟨r,hr⟩:=key_head v desc;have h9:=key_909 h desc;have hs:=right_shape 5 v h;have hk : 0≤v.f0∧v.f0≤5:=by unfold Shape at hs;omega
 have hh : 0≤hd v desc∧hd v desc<255:=by unfold hd;cases desc <;> simp <;> omega
 have hin:=key_in v desc;rw [hr] at h9 hin ⊢;have hb1 : Byts [hd v desc]:=fun b hb => by simp at hb;omega
 refine ⟨by rw [str_len];omega,by rw [str_len];simp,?_,?_,?_,hh⟩
 ·
  rw [ext_of _ hin 0 1];rfl
 ·
  have:=bt_of _ hin 0 (by simp);simpa using this
 have:=bt_of _ hb1 0 (by simp);simpa using this
theorem impl_ivl (op : Int) (p : ByteArray) (v : IVal) (desc : Bool) (h : rightV 5 v=true) (h9 : op=9→v.f0=2∧0≤v.f1∧v.f1≤5) (ho : 1≤op∧op≤10) :
  Eve (fun k => F6.f k op p v.f0 v.f1 v.f2 desc) (ivlV op v desc):=by
 obtain ⟨q1,q2,q3,q4,q5,q6,q7⟩:=key_facts h desc;have hj : ∀ o : Int,(o=9→op=9)→(o=1↔op=1)→(o=9↔op=9)→Eve (fun k => F6.j0 k desc (strOfNums (keyB v desc)) o op p v.f0 v.f1 v.f2 (begI (strOfNums [hd v desc])).1 (begI (strOfNums [hd v desc])).2.1 (begI (strOfNums [hd v desc])).2.2)
   (if o=1 then begI (strOfNums (keyB v desc)) else if o=9 then begI (strOfNums [if desc=true then (255 - (v.f1 + 1) % 256) % 256 else (v.f1 + 1) % 256]) else if o=5 then ((beh (strOfNums (keyB v desc)) (strOfNums (keyB v desc)).size).1,(begI (strOfNums [hd v desc])).2) else if o=6 then (strOfNums (keyB v desc),(begI (strOfNums [hd v desc])).2) else if o=3 then ((begI (strOfNums [hd v desc])).1,strOfNums (keyB v desc),(begI (strOfNums [hd v desc])).2.2) else if o=4 then ((begI (strOfNums [hd v desc])).1,(beh (strOfNums (keyB v desc)) (strOfNums (keyB v desc)).size).1,(begI (strOfNums [hd v desc])).2.2) else eI):=by
  intro o ho9 _ _;have hsnd : (beh (strOfNums (keyB v desc)) (strOfNums (keyB v desc)).size).1=(begI (strOfNums (keyB v desc))).2.1:=rfl;have hbk:=begI_tells (strOfNums (keyB v desc)) q1;rw [hsnd];generalize begI (strOfNums [hd v desc])=K;generalize begI (strOfNums (keyB v desc))=B at hbk ⊢;obtain ⟨K0,K1,K2⟩:=K;obtain ⟨B0,B1,B2⟩:=B;refine Eve.succ ?_;simp only [F6.j0];refine Eve.ite (fun e => ?_) (fun e1 => ?_)
  ·
   rw [if_pos e];exact Eve.bind hbk Eve.one
  rw [if_neg e1];refine Eve.ite (fun e => ?_) (fun e2 => ?_)
  ·
   rw [if_pos e]
   obtain ⟨_,g1,g2⟩:=h9 (ho9 e);simp only [w64 (i:=v.f1 + 1) (by omega) (by omega),fallen_tells [(v.f1 + 1) % 256] desc (by simp),Option.bind_some];have e3 : (if desc=true then turnB [(v.f1 + 1) % 256] else [(v.f1 + 1) % 256])=[if desc=true then (255 - (v.f1 + 1) % 256) % 256 else (v.f1 + 1) % 256]:=by cases desc <;> rfl
   rw [e3];exact begI_tells3 _ (by rw [one_len];omega)
  rw [if_neg e2];refine Eve.ite (fun e => ?_) (fun e3 => ?_)
  ·
   rw [if_pos e];exact Eve.bind hbk Eve.one
  rw [if_neg e3];refine Eve.ite (fun e => ?_) (fun e4 => ?_)
  ·
   rw [if_pos e];exact Eve.one
  rw [if_neg e4];refine Eve.ite (fun e => ?_) (fun e5 => ?_)
  ·
   rw [if_pos e];exact Eve.one
  rw [if_neg e5];refine Eve.ite (fun e => ?_) (fun e6 => ?_)
  ·
   rw [if_pos e];exact Eve.bind hbk Eve.one
  rw [if_neg e6];exact Eve.one
 simp only [F6.f];refine Eve.bind (keyOf_impl h desc) ?_;refine Eve.ite (fun _ => ?_) (fun h => absurd (by omega) h);refine Eve.ite (fun _ => ?_) (fun h => absurd (by omega) h);rw [q3];refine Eve.bind (begI_tells (strOfNums [hd v desc]) (by rw [one_len];omega)) ?_;unfold ivlV;refine Eve.ite (fun hd1 => ?_) (fun hd0 => ?_)
 ·
  simp only [if_pos hd1]
  refine Eve.ite (fun e => (hj 5 (by omega) (by omega) (by omega)).eq ?_) (fun e3 => ?_)
  ·
   subst e;simp [hd1,begI_fst]
  refine Eve.ite (fun e => (hj 6 (by omega) (by omega) (by omega)).eq ?_) (fun e4 => ?_)
  ·
   subst e;simp [hd1,begI_fst]
  refine Eve.ite (fun e => (hj 3 (by omega) (by omega) (by omega)).eq ?_) (fun e5 => ?_)
  ·
   subst e;simp [hd1,begI_fst]
  refine Eve.ite (fun e => (hj 4 (by omega) (by omega) (by omega)).eq ?_) (fun e6 => ?_)
  ·
   subst e;simp [hd1,begI_fst]
  refine (hj op (fun e => e) Iff.rfl Iff.rfl).eq ?_;simp [hd1,e3,e4,e5,e6,begI_fst]
 have hf : desc=false:=by simpa using hd0
 subst hf;exact (hj op (fun e => e) Iff.rfl Iff.rfl).eq (by simp [begI_fst])
theorem spec_ivl (op : Int) (p : ByteArray) (v : IVal) (desc : Bool) (h : rightV 5 v=true) (h9 : op=9→v.f0=2∧0≤v.f1∧v.f1≤5) (ho : 1≤op∧op≤10) :
  Eve (fun k => F1.f k op p v.f0 v.f1 v.f2 desc) (ivlV op v desc):=by
 obtain ⟨q1,q2,q3,q4,q5,q6,q7⟩:=key_facts h desc;have hs:=right_shape 5 v h;have hk : 0≤v.f0∧v.f0≤5:=by unfold Shape at hs;omega
 have hkb:=beh_first (strOfNums [hd v desc]) (by rw [q5];exact q7) (strOfNums [hd v desc]).size (by rw [one_len];omega) (Nat.le_refl _)
 have hkk : (begI (strOfNums [hd v desc]))=(strOfNums [hd v desc],strOfNums [hd v desc + 1],false):=by
  have e1 : (strOfNums [hd v desc]).size=0 + 1:=one_len _;unfold begI;rw [hkb.1]
  have : (beh (strOfNums [hd v desc]) (strOfNums [hd v desc]).size).1=strOfNums [hd v desc + 1]:=by
   rw [e1];unfold beh;rw [show (((0 : Nat) : Int))=0 from rfl,q5,if_pos q7]
   have : (strOfNums [hd v desc]).extract 0 0=⟨#[]⟩:=by
    apply ba_ext;rw [ba_toList,ba_toList,Lib.extract_data];simp
   show (strOfNums [hd v desc]).extract 0 0 ++ strOfNums [(hd v desc + 1) % 256]=_;rw [this,Int.emod_eq_of_lt (by omega) (by omega)];apply ba_ext;rw [ba_toList,ba_toList,ByteArray.data_append];simp
  rw [this];rfl
 have hkey:=beh_first (strOfNums (keyB v desc)) (by rw [q4];exact q7) (strOfNums (keyB v desc)).size q2 (Nat.le_refl _)
 have hlt : (hd v desc).toNat.toUInt8<(hd v desc + 1).toNat.toUInt8:=by
  rw [UInt8.lt_iff_toNat_lt];simp
  omega
 have hm1 : mns (strOfNums [hd v desc + 1]) (strOfNums (keyB v desc))=strOfNums (keyB v desc):=by
  obtain ⟨r,hr⟩:=key_head v desc;refine mns_at ?_;rw [one_list,hr];have : (strOfNums (hd v desc :: r)).toList=(hd v desc).toNat.toUInt8 :: (strOfNums r).toList:=by rw [ba_toList,ba_toList];rfl
  rw [this];exact bl_cons_ge _ _ _ _ hlt
 have hm2 : mns (strOfNums [hd v desc + 1]) (beh (strOfNums (keyB v desc)) (strOfNums (keyB v desc)).size).1=(beh (strOfNums (keyB v desc)) (strOfNums (keyB v desc)).size).1:=by
  refine mns_at ?_;rcases hkey.2 with e|⟨r,e⟩
  ·
   rw [e,q4,Int.emod_eq_of_lt (by omega) (by omega)]
   have : ∀ x : List UInt8,Op.bytesLess x x=false:=by
    intro x
    induction x with
    | nil => rfl
    | cons a x ih => simp [Op.bytesLess,ih]
   exact this _
  rw [e,one_list,q4];exact bl_cons_ge _ _ _ _ hlt
 have hone : begI (strOfNums (keyB v desc))=(strOfNums (keyB v desc),(beh (strOfNums (keyB v desc)) (strOfNums (keyB v desc)).size).1,false):=by
  unfold begI;rw [hkey.1];rfl
 have hnum : Eve (fun k => F8.f k (wrap64 (v.f0 + 1)) 1) (strOfNums [(v.f0 + 1) % 256]):=by
  rw [w64 (by omega) (by omega)];exact one_number _
 have hj2 : ∀ x7 x8 : Bool,Eve (fun k => F1.j2 k desc x7 x8 (begI (strOfNums [hd v desc])).1 (begI (strOfNums [hd v desc])).2.1 (begI (strOfNums [hd v desc])).2.2 (begI (strOfNums (keyB v desc))).1 (begI (strOfNums (keyB v desc))).2.1 (begI (strOfNums (keyB v desc))).2.2)
   (if (x7 != desc)=true then (if x8=true then (strOfNums (keyB v desc),(begI (strOfNums [hd v desc])).2) else ((beh (strOfNums (keyB v desc)) (strOfNums (keyB v desc)).size).1,(begI (strOfNums [hd v desc])).2)) else (if x8=true then (strOfNums [hd v desc],(beh (strOfNums (keyB v desc)) (strOfNums (keyB v desc)).size).1,(begI (strOfNums [hd v desc])).2.2) else (strOfNums [hd v desc],strOfNums (keyB v desc),(begI (strOfNums [hd v desc])).2.2))):=by
  intro x7 x8;refine Eve.succ ?_;simp only [F1.j2,F01.f,hone,hkk,Bool.false_eq_true,if_false,Option.bind_some,mxs_none,hm1,hm2];refine Eve.ite (fun e => ?_) (fun e => ?_)
  ·
   rw [if_pos e];exact Eve.ite (fun e => Eve.one.eq (by rw [if_pos e])) (fun e => Eve.one.eq (by rw [if_neg e]))
  rw [if_neg e];exact Eve.ite (fun e => Eve.one.eq (by rw [if_pos e])) (fun e => Eve.one.eq (by rw [if_neg e]))
 have hj1 : ∀ (x7 : Bool),Eve (fun k => F1.j1 k desc x7 op p v.f0 v.f1 v.f2 (begI (strOfNums [hd v desc])).1 (begI (strOfNums [hd v desc])).2.1 (begI (strOfNums [hd v desc])).2.2 (begI (strOfNums (keyB v desc))).1 (begI (strOfNums (keyB v desc))).2.1 (begI (strOfNums (keyB v desc))).2.2)
   (if (x7 != desc)=true then (if op=4∨op=6 then (strOfNums (keyB v desc),(begI (strOfNums [hd v desc])).2) else ((beh (strOfNums (keyB v desc)) (strOfNums (keyB v desc)).size).1,(begI (strOfNums [hd v desc])).2)) else (if op=4∨op=6 then (strOfNums [hd v desc],(beh (strOfNums (keyB v desc)) (strOfNums (keyB v desc)).size).1,(begI (strOfNums [hd v desc])).2.2) else (strOfNums [hd v desc],strOfNums (keyB v desc),(begI (strOfNums [hd v desc])).2.2))):=by
  intro x7;refine Eve.succ ?_;simp only [F1.j1];refine Eve.ite (fun e => (hj2 x7 true).eq ?_) (fun e => (hj2 x7 (op == 6)).eq ?_)
  ·
   simp [e]
  simp [e]
 have hj0 : ∀ (x27 : Bool),Eve (fun k => F1.j0 k desc op x27 op p v.f0 v.f1 v.f2 (begI (strOfNums [hd v desc])).1 (begI (strOfNums [hd v desc])).2.1 (begI (strOfNums [hd v desc])).2.2 (begI (strOfNums (keyB v desc))).1 (begI (strOfNums (keyB v desc))).2.1 (begI (strOfNums (keyB v desc))).2.2)
   (if x27=true then (if ((decide (op=5∨op=6)) != desc)=true then (if op=4∨op=6 then (strOfNums (keyB v desc),(begI (strOfNums [hd v desc])).2) else ((beh (strOfNums (keyB v desc)) (strOfNums (keyB v desc)).size).1,(begI (strOfNums [hd v desc])).2)) else (if op=4∨op=6 then (strOfNums [hd v desc],(beh (strOfNums (keyB v desc)) (strOfNums (keyB v desc)).size).1,(begI (strOfNums [hd v desc])).2.2) else (strOfNums [hd v desc],strOfNums (keyB v desc),(begI (strOfNums [hd v desc])).2.2)))
    else if op=9 then begI (strOfNums [if desc=true then (255 - (v.f1 + 1) % 256) % 256 else (v.f1 + 1) % 256]) else eI):=by
  intro x27;refine Eve.succ ?_;simp only [F1.j0];refine Eve.ite (fun e => ?_) (fun e => ?_)
  ·
   rw [if_pos e]
   refine Eve.ite (fun e => (hj1 true).eq ?_) (fun e => (hj1 (op == 6)).eq ?_)
   ·
    simp [e]
   have : (op == 6)=decide (op=5∨op=6):=by
    by_cases h6 : op=6
    ·
     subst h6;rfl
    have a : (op == 6)=false:=by simpa using h6
    rw [a,decide_eq_false (by omega)]
   rw [this]
  rw [if_neg e];refine Eve.ite (fun e9 => ?_) (fun e9 => Eve.one.eq (by rw [if_neg e9];rfl));obtain ⟨_,g1,g2⟩:=h9 e9;rw [if_pos e9,w64 (i:=v.f1 + 1) (by omega) (by omega)];refine Eve.bind (one_number (v.f1 + 1)) (Eve.bind (turned_one ((v.f1 + 1) % 256) (by omega) desc) ?_);exact begI_spec3 _ (by rw [one_len];omega)
 simp only [F1.f];refine Eve.bind hnum (Eve.bind (turned_one ((v.f0 + 1) % 256) (by omega) desc) ?_);have ehd : (if desc=true then (255 - (v.f0 + 1) % 256) % 256 else (v.f0 + 1) % 256)=hd v desc:=rfl;rw [ehd];refine Eve.bind (begI_spec (strOfNums [hd v desc]) (by rw [one_len];omega)) ?_;refine Eve.bind (key_spec h desc) ?_;refine Eve.bind (begI_spec _ q1) ?_;unfold ivlV;refine Eve.ite (fun e => Eve.one.eq (by rw [if_pos e])) (fun e1 => ?_);rw [if_neg e1];have fin : ∀ b : Bool,b=decide (3≤op∧op≤6)→Eve (fun k => F1.j0 k desc op b op p v.f0 v.f1 v.f2 (begI (strOfNums [hd v desc])).1 (begI (strOfNums [hd v desc])).2.1 (begI (strOfNums [hd v desc])).2.2 (begI (strOfNums (keyB v desc))).1 (begI (strOfNums (keyB v desc))).2.1 (begI (strOfNums (keyB v desc))).2.2)
   (if op=9 then begI (strOfNums [if desc=true then (255 - (v.f1 + 1) % 256) % 256 else (v.f1 + 1) % 256])
 else if op=(if desc=true then 3 else 5) then ((beh (strOfNums (keyB v desc)) (strOfNums (keyB v desc)).size).1,(begI (strOfNums [hd v desc])).2)
 else if op=(if desc=true then 4 else 6) then (strOfNums (keyB v desc),(begI (strOfNums [hd v desc])).2)
 else if op=(if desc=true then 5 else 3) then (strOfNums [hd v desc],strOfNums (keyB v desc),(begI (strOfNums [hd v desc])).2.2)
 else if op=(if desc=true then 6 else 4) then (strOfNums [hd v desc],(beh (strOfNums (keyB v desc)) (strOfNums (keyB v desc)).size).1,(begI (strOfNums [hd v desc])).2.2)
 else eI):=by
  intro b hb;refine (hj0 b).eq ?_;subst hb;obtain rfl|rfl|rfl|rfl|rfl|rfl|rfl|rfl|rfl : op=2∨op=3∨op=4∨op=5∨op=6∨op=7∨op=8∨op=9∨op=10:=by omega
  all_goals (cases desc <;> simp)
 refine Eve.ite (fun e => fin _ (by subst e;rfl)) (fun e3 => ?_);refine Eve.ite (fun e => fin _ (by subst e;rfl)) (fun e5 => ?_);refine Eve.ite (fun e => fin _ (by subst e;rfl)) (fun e4 => ?_);refine fin _ ?_
 by_cases e6 : op=6
 ·
  subst e6;rfl
 have a : (op == 6)=false:=by simpa using e6
 rw [a,decide_eq_false (by omega)]
theorem FnExactTermInterval : F0g.Pure:=by
 rintro x desc ⟨_,hp,_,_,hv⟩ _;refine Eve.get (g:=fun k => F0g.f k x.f0 x.f1 x.f2.f0 x.f2.f1 x.f2.f2 desc) ?_;simp only [F0g.f,F0p.f];rw [w64 (by omega) (by omega)]
 by_cases h : (1048576 : Int) - x.f1.size<0
 ·
  rw [if_pos h];simp only [Option.bind_some];exact Eve.ite (fun _ => Eve.one) (fun h => absurd (by omega) h)
 rw [if_neg h,szValue_tells x.f2 hv (by omega) (by omega)];simp only [Option.bind_some]
 by_cases h2 : (1048576 : Int) - x.f1.size - x.f2.f2.size<0
 ·
  rw [if_pos h2];simp only [if_pos (show (-1 : Int)<0 by omega),Option.bind_some];exact Eve.one
 rw [if_neg h2,if_neg h2];simp only [Option.bind_some];refine Eve.ite (fun _ => Eve.one) (fun _ => ?_);simp only [F0c.f,toValue_tells,Option.bind_some];have t1:=trm_spec x.f0 x.f1 (iv x.f2) (by omega) (by show x.f2.f2.size≤_;omega);have t2:=trm_impl x.f0 x.f1 (iv x.f2) (by omega) (by show x.f2.f2.size≤_;omega)
 have heq : ∀ (a b : ByteArray) (c : Bool),F0h.f a b c a b c=some true:=by
  intro a b c;unfold F0h.f;simp
 cases ht : trmV x.f0 x.f1 (iv x.f2) with
 | false =>
  rw [ht] at t1 t2;refine Eve.bind (v:=((⟨#[]⟩ : ByteArray),(⟨#[]⟩ : ByteArray),false,(1 : Int))) ?_ (Eve.bind (v:=((⟨#[]⟩ : ByteArray),(⟨#[]⟩ : ByteArray),false,(1 : Int))) ?_ ?_)
  ·
   simp only [F0a.f]
   refine Eve.bind t1 ?_;simp only [Bool.false_eq_true,if_false];exact Eve.one
  ·
   simp only [F06.f]
   refine Eve.bind t2 ?_;simp only [Bool.false_eq_true,if_false];exact Eve.one
  simp only [heq,Option.bind_some,if_true];exact Eve.one
 | true =>
  rw [ht] at t1 t2;have hr : rightV 5 (iv x.f2)=true:=by unfold trmV at ht;simp at ht;exact ht.2.1
  have hk : trmK x.f0 (iv x.f2)=true:=by unfold trmV at ht;simp at ht;exact ht.2.2
  have h9 : x.f0=9→(iv x.f2).f0=2∧0≤(iv x.f2).f1∧(iv x.f2).f1≤5:=by
   intro e;unfold trmK at hk;rw [if_neg (by omega),if_neg (by omega),if_pos e] at hk;unfold inr at hk
   simpa using hk
  have ho : 1≤x.f0∧x.f0≤10:=by
   unfold trmK at hk
   by_cases e7 : x.f0=7
   ·
    omega
   by_cases e8 : x.f0=8
   ·
    omega
   by_cases e9 : x.f0=9
   ·
    omega
   by_cases e10 : x.f0=10
   ·
    omega
   rw [if_neg e7,if_neg e8,if_neg e9,if_neg e10] at hk;unfold inr at hk;have : 1≤x.f0∧x.f0≤6:=by simpa using hk
   omega
  have a1:=spec_ivl x.f0 x.f1 (iv x.f2) desc hr h9 ho;have a2:=impl_ivl x.f0 x.f1 (iv x.f2) desc hr h9 ho;refine Eve.bind (v:=((ivlV x.f0 (iv x.f2) desc).1,(ivlV x.f0 (iv x.f2) desc).2.1,(ivlV x.f0 (iv x.f2) desc).2.2,(0 : Int))) ?_ (Eve.bind (v:=((ivlV x.f0 (iv x.f2) desc).1,(ivlV x.f0 (iv x.f2) desc).2.1,(ivlV x.f0 (iv x.f2) desc).2.2,(0 : Int))) ?_ ?_)
  ·
   simp only [F0a.f]
   refine Eve.bind t1 ?_;simp only [if_true];exact Eve.bind a1 Eve.one
  ·
   simp only [F06.f]
   refine Eve.bind t2 ?_;simp only [if_true];exact Eve.bind a2 Eve.one
  simp only [heq,Option.bind_some,if_true];exact Eve.one
end Go.Proofs.YthjgfjlogilleabDoor.Pure
end
section
namespace Go.Proofs.YthjgfjlogilleabDoor.fnExactTermInterval
open Go.ChangeShapes Go.WideShapes Go.ChangeAt Go.RowKit Go.Proofs.YthjgfjlogilleabDoorW.PrintWords Go.Proofs.YthjgfjlogilleabDoorW.PrintOpen Go.Proofs.YthjgfjlogilleabDoor.Q
open Go.ChangeMaps (open_string shut_string)
set_option linter.unusedVariables false
noncomputable def doorWorld (os : Os) : World :=
 { World.doorLaid Tryd.prog 19 os with heap:=(World.doorLaid Tryd.prog 19 os).heap.modify 1 fun
   | .cells _ t frozen => .cells (Go.Pinned.utf8FirstZ.map fun (z : Nat) => Value.int .u8 z).toArray t frozen
   | o => o }
abbrev laid1 : List (String × DataW Unit) := [("unicode/utf8.acceptRanges", Rows.laid_unicode_utf8_acceptRanges), ("unicode/utf8.first", Rows.laid_unicode_utf8_first)]
theorem door_met (os : Os) (args : Array Value) : laidMetH Tryd.prog laid1 ((doorWorld os).forCall (fun _ _ => 0) ⟨#[],args,[]⟩).memory :=
 laidMetH_of_parts3 (fuel:=8) (laidMet_of_run' 8 (by kernel_rfl) (by kernel_rfl)) (by kernel_rfl) (by kernel_rfl)
theorem own : ownKnob Tryd.prog.godebug=none:=by kernel_rfl
theorem laidOut : laidOutB Tryd.prog=true:=by kernel_rfl
set_option maxRecDepth 100000 in
theorem lifted (os : Os) (started : os.Started) (H : Type) (enc : TypeId×Value→H) :
  ReturnsInHanded {} Tryd.checked os 3 .any (fun w args => (Rows.fnExactTermIntervalSpec.pre enc Tryd.prog Tryd.f3 [] false w args∧laidMetH Tryd.prog laid1 w)∧sizedMet enc Tryd.prog Tryd.f3 (OpenSpec.ofChange Rows.fnExactTermIntervalSpec) false w args)
   (Rows.fnExactTermIntervalSpec.post enc Tryd.prog Tryd.f3 false true false false):=by
 refine returnsInHanded_of_change_and (C:=Tryd.checked) (X:=fun w _ => laidMetH Tryd.prog laid1 w) (fun _ _ _ hh h => h.of_heap hh) own started (by kernel_rfl) Tryd.func3
  (ChangeSpec.witness_shaped (enc:=enc) (C:=Tryd.checked) (os:=os) (X:=fun w _ => laidMetH Tryd.prog laid1 w) false (doorWorld os) #[.agg #[.int .i64 0,.string ByteArray.empty,.int .i64 0,.int .i64 0,.string ByteArray.empty],.bool false] 8 rfl (World.shaped_of_RefB (by kernel_rfl) (by kernel_rfl)) (by kernel_rfl) (by kernel_rfl) (by kernel_rfl) (door_met os _)) ?_
 intro W base args ds gs before hval0 hW hcnd hsz0 hL _
 have hval : ∀ (j : Nat) t v,Tryd.f3.params[j]? = some t→args[j]? = some v→Value.okWide Tryd.prog W .any base t v:=hval0
 have hW':=hW
 obtain ⟨p,q,hA0,hV,rfl,hfz,hnd⟩:=hW
 have hA : DataW.TrodAll enc Tryd.prog W 0 (fun _ => true) true Tryd.f3.params.toList args.toList ds p:=hA0
 rw [Tryd.params3] at hA hval
 obtain ⟨v0,vs0,d0,ds0,p0,q0,hargs,rfl,rfl,h0,r0⟩:=trodAll_cons hA
 obtain ⟨v1,vs1,d1,ds1,p1,q1,rfl,rfl,rfl,h1,r1⟩:=trodAll_cons r0
 obtain ⟨rfl,rfl,rfl⟩:=trodAll_nil r1
 obtain rfl : args = #[v0,v1]:=by cases args;simp_all
 obtain ⟨rfl,rfl⟩:=trodVars_none hV
 have t0:=h0
 have lt0 : ∀ x ∈ p0,x.block<W.heap.size:=by obtain ⟨m,hm⟩:=t0;exact DataW.trod_lt m _ _ _ hm
 obtain ⟨x0,cs0,rfl,K0,g0⟩:=arg_struct Tryd.underlying25 opens25 (hval 0 25 v0 rfl rfl) h0
 obtain rfl:=k25_open K0
 obtain ⟨x1,rfl,rfl,rfl⟩:=open_bool Tryd.underlying4 (hval 1 4 v1 rfl rfl) h1
 clear hA0 hval0 hsz0
 obtain ⟨k,hp⟩:=Pure.FnExactTermInterval x0 x1 g0 trivial
 refine (F0g.calls k x0.f0 x0.f1 x0.f2.f0 x0.f2.f1 x0.f2.f2 x1 true W  hp rfl).mono fun e W' ⟨he,bel0⟩ => ?_
 have bel : Below W.heap.size W W':=bel0
 subst he
 exact ⟨_,rfl,_,_,_,[],_,[],hW',trodAll_mk1 (shut_bool Tryd.underlying4 _),(trodAll_cons_mk (Below.trod laidOut (by kernel_rfl) (of_decide_eq_true (by kernel_rfl)) t0 bel lt0) (trodAll_cons_mk (shut_bool Tryd.underlying4 _) trodAll_mk0)),rfl,bel.frame _,fun h => by cases h⟩
theorem over : Rows.fnExactTermIntervalRow.holds Tryd.pinned (OpenSpec.ofChange Rows.fnExactTermIntervalSpec) :=
 OpenClaim.holds_of_wide 3 Tryd.f3 rfl rfl rfl rfl rfl rfl rfl ⟨rfl,rfl,rfl,rfl,rfl⟩ rfl rfl rfl rfl rfl (by kernel_rfl) Tryd.func3 (by kernel_rfl)
  (of_decide_eq_true (by kernel_rfl)) (by unfold Func.isWrapper;first|(rw [if_pos (by decide +kernel)];kernel_rfl)|(rw [if_neg (by decide +kernel)];exact ⟨rfl,rfl⟩))
  (fun os started H enc _ => lifted os started H enc)
theorem card : Rows.FnExactTermIntervalCardSaid :=
 Claim7.holds_tied_plain_at .later [] _ true _ false
  over (fun _ h => by cases h) (by kernel_rfl) (fun _ h => by cases h) fnExactTermInterval_row_tie rfl ⟨rfl,rfl⟩ (by kernel_rfl) rfl
  (fun f fn hf hfn => by
   obtain rfl : f = 3 := Option.some.inj ((show Tryd.prog.funcNamed "loop.example/g00380/laws.FnExactTermInterval" = some 3 by kernel_rfl).symm.trans hf) |>.symm
   obtain rfl : fn=Tryd.f3:=(Option.some.inj (Tryd.func3.symm.trans hfn)).symm
   exact ⟨by kernel_rfl,fun j t ht => by
    rw [Tryd.params3] at ht
    have hm : t ∈ [25,4]:=by simpa using Array.mem_of_getElem? ht
    have hall : ([25,4].all fun u => !Tryd.prog.wantsStandIn u)=true:=by kernel_rfl
    exact (show Tryd.prog.wantsStandIn t=false by simpa using List.all_eq_true.1 hall t hm)⟩)
  (by kernel_rfl)
#print axioms card
end Go.Proofs.YthjgfjlogilleabDoor.fnExactTermInterval
namespace Go.Proofs.YthjgfjlogilleabDoor
theorem fnExactTermInterval_holds : Rows.FnExactTermIntervalCardSaid:=fnExactTermInterval.card
end Go.Proofs.YthjgfjlogilleabDoor
end
