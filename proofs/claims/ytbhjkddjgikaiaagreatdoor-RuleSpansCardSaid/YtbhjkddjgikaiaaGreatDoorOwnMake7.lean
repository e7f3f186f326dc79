/-
  Own texts, several in one (Make7, FrameA, Line10).
-/
import Derived.Test.YtbhjkddjgikaiaaGreatDoorOwnIdxU
import Derived.Test.YtbhjkddjgikaiaaGreatDoorMrg16
import Derived.Test.YtbhjkddjgikaiaaGreatDoorMrg19
import Derived.Test.YtbhjkddjgikaiaaGreatDoorOwnGet6
import Derived.Test.YtbhjkddjgikaiaaGreatDoorMrg29
namespace Go.Proofs.YtbhjkddjgikaiaaGreatDoor
open Go.RowKit
set_option linter.unusedVariables false
set_option linter.unusedSimpArgs false
def st7 (out : List Int) (n : Int) : List Int := if 1 + n % 9 ∈ out then out else out ++ [1 + n % 9]
def mk7 (l : List Int) : List Int := l.foldl st7 []
theorem mk7_take (l : List Int) (k : Nat) (hk : k < l.length) : mk7 (l.take (k + 1)) = st7 (mk7 (l.take k)) (l.getD k 0) := by
  unfold mk7
  rw [List.take_succ_eq_append_getElem hk, List.foldl_append]
  simp [List.getD, hk]
theorem mk7_len (l : List Int) : (mk7 l).length ≤ l.length := by
  have go : ∀ (l : List Int) (s : List Int), (l.foldl st7 s).length ≤ s.length + l.length := fun l => by
    induction l with
    | nil => intro s; simp
    | cons x l ih =>
      intro s
      rw [List.foldl_cons]
      have := ih (st7 s x)
      have h : (st7 s x).length ≤ s.length + 1 := by unfold st7; split <;> simp
      rw [List.length_cons]
      omega
  simpa [mk7] using go l []
theorem mk7_nodup (l : List Int) : (mk7 l).Nodup ∧ ∀ x ∈ mk7 l, 1 ≤ x ∧ x ≤ 9 := by
  have go : ∀ (l : List Int) (s : List Int), (s.Nodup ∧ ∀ x ∈ s, 1 ≤ x ∧ x ≤ 9) → ((l.foldl st7 s).Nodup ∧ ∀ x ∈ l.foldl st7 s, 1 ≤ x ∧ x ≤ 9) := fun l => by
    induction l with
    | nil => intro s h; exact h
    | cons y l ih =>
      intro s h
      rw [List.foldl_cons]
      refine ih _ ?_
      unfold st7
      by_cases c : 1 + y % 9 ∈ s
      · rw [if_pos c]; exact h
      · rw [if_neg c]
        refine ⟨List.nodup_append.2 ⟨h.1, by simp, fun a ha b hb => ?_⟩, fun x hx => ?_⟩
        · rw [List.mem_singleton.1 hb]
          intro e
          exact c (e ▸ ha)
        · rcases List.mem_append.1 hx with hx | hx
          · exact h.2 x hx
          · rw [List.mem_singleton.1 hx]; omega
  simpa [mk7] using go l [] ⟨List.nodup_nil, by simp⟩
theorem append_u16 (W : World) (B : Nat) (ty : TypeId) (v : Value) (n : Nat) (xs : List Int) (hown : W.ownsRow B 34 1 v n (nv .u16 xs)) (g : Nat) (z : Int) (RG : Row W g #[.int .u16 z] 34) (hn : n ≤ 100000) (hB : B ≤ W.heap.size) :
    ∃ v' w', (Builtin.append_ #[65, 65] ty #[v, .slice (some ⟨g, 0, none⟩) 1 1]).run Tryz.prog W = .ok v' w' ∧ w'.ownsRow B 34 1 v' (n + 1) (nv .u16 (xs ++ [z])) ∧ Below B W w' := by
  obtain ⟨i, hi, h1, h2, h3⟩ := info_u16
  obtain ⟨v', w', hr, k2, k3, k4, k5⟩ := run_append_own_at (P := Tryz.prog) W B 65 ty 34 i (.int .u16 0) 1 2 Tryz.underlying65 hi h1 h2 h3 rfl (by omega) v n (nv .u16 xs) hown ⟨g, 0, none⟩ 1 1 [.int .u16 z] rfl (fun j u hj => by
    rw [addr_add, Nat.zero_add, RG.cell j]
    simpa using hj) (fun u hu => by simp at hu; subst hu; rfl) (by unfold maxLen; omega) (by omega) hB
  exact ⟨v', w', hr, by unfold nv at k2 ⊢; rwa [List.map_append], (Below.refl B W).grown k3 hB (fun k hk => (ownW_lt hown hk).1)⟩
theorem sort_own (B : Nat) (v : Value) (n : Nat) (xs : List Int) (w : World) (hown : w.ownsRow B 34 1 v n (nv .u16 xs)) (hl : xs.length ≤ 8) (hB0 : B ≤ w.heap.size) :
    Calls Tryz.prog 119 #[v] w fun e w' => e = .returned (.tuple #[]) ∧ ∃ ys, ys.Perm xs ∧ ys.Pairwise (· ≤ ·) ∧ w'.ownsRow B 34 1 v n (nv .u16 ys) ∧ Below B w w' := by
  have hln := (NsAt.of_own hown).2
  rcases hown.2 with ⟨rfl, h0⟩ | ⟨g, cap, cur, rfl, hB, R, hc1, hc2, hc3, hc4⟩
  · refine (sort_nil w).mono ?_
    rintro _ w1 ⟨rfl, hb⟩
    subst h0
    obtain rfl : xs = [] := List.length_eq_zero_iff.1 hln
    exact ⟨rfl, [], List.Perm.refl _, List.Pairwise.nil, ⟨rfl, .inl ⟨rfl, rfl⟩⟩, hb.mono hB0⟩
  · subst hln
    have hcur : cur = cellsU xs (cur.toList.drop xs.length) := by
      unfold cellsU
      rw [← hc4, Nat.mul_one, List.take_append_drop]
    have R' : Row w g (cellsU xs (cur.toList.drop xs.length)) 34 := by rw [← hcur]; exact R
    refine (sort_u16 g cap xs _ w R' hl).mono ?_
    rintro _ w1 ⟨rfl, ys, hp, hso, RY, SY⟩
    refine ⟨rfl, ys, hp, hso, ⟨by simp [nv, hp.length_eq], .inr ⟨g, cap, _, rfl, hB, RY, hc1, hc2, ?_, ?_⟩⟩, SY.below (Below.refl B w) hB⟩
    · have h : (cellsU xs (cur.toList.drop xs.length)).size = cur.size := by rw [← hcur]
      rw [← hc3, ← h]
      simp [cellsU, nv, hp.length_eq]
    · unfold cellsU
      rw [Nat.mul_one, ← hp.length_eq]
      simp [nv]
set_option maxHeartbeats 4000000 in
set_option maxRecDepth 100000 in
theorem make7_any (v : Value) (l : List Int) (w : World) (hN : NsAt .u16 w v l) (hb : ∀ n ∈ l, 0 ≤ n ∧ n ≤ 65535) (hl : l.length ≤ 8) :
    Calls Tryz.prog 77 #[v] w fun e w' => ∃ v2 ys, e = .returned v2 ∧ ys.Perm (mk7 l) ∧ ys.Pairwise (· ≤ ·) ∧ w'.ownsRow w.heap.size 34 1 v2 ys.length (nv .u16 ys) ∧ Below w.heap.size w w' := by
  obtain ⟨p, cap, rfl, hc⟩ := hN
  have HC := Lib.hid hc
  have HB0 := Lib.hid hb
  have HL := Lib.hid hl
  clear hc hb hl
  go_enter Tryz.func77, Tryz.ntmps77
  go_wp2_with fail
  go_loopw [3, 8] (fun sv iv wr => ∃ k : Nat, k ≤ l.length ∧ iv = .int .i64 (k : Int) ∧ wr.ownsRow w.heap.size 34 1 sv (mk7 (l.take k)).length (nv .u16 (mk7 (l.take k))) ∧ Below w.heap.size w wr) (fun _ iv _ => l.length - (intOf iv).toNat)
  case atStart => exact ⟨0, by omega, rfl, ⟨rfl, .inl ⟨rfl, rfl⟩⟩, Below.refl _ _⟩
  case round =>
    obtain ⟨k, hk, rfl, hown, BB⟩ := hrel
    have HOW := Lib.hid hown
    have HB := Lib.hid BB
    have hln := mk7_len (l.take k)
    rw [List.length_take, Nat.min_eq_left hk] at hln
    clear hown BB
    by_cases hlt : k < l.length
    · have i0 : (0 : Int) ≤ (k : Int) := by omega
      have i1 : (k : Int) < (l.length : Int) := by omega
      obtain ⟨b, off, rfl, hcc⟩ : ∃ b off, p = some ⟨b, off, none⟩ ∧ ∀ i, i < l.length → w.cell? ⟨b, off + i, none⟩ = some (.int .u16 (l.getD i 0)) := by
        rcases HC.out with h | h
        · rw [h] at hlt; simp at hlt
        · exact h
      have ck := cell_then (hcc k hlt) HB.out
      have hx := HB0.out _ (getD_mem (d := 0) hlt)
      have hst := mk7_take l k hlt
      obtain ⟨x, hxe⟩ : ∃ x, x = l.getD k 0 := ⟨_, rfl⟩
      rw [← hxe] at ck hx hst
      obtain ⟨out, hout⟩ : ∃ o, o = mk7 (l.take k) := ⟨_, rfl⟩
      rw [← hout] at HOW hst hln
      have HST := Lib.hid hst
      have HLT := Lib.hid hlt
      have HLN := Lib.hid hln
      obtain ⟨d, hd⟩ : ∃ d, d = x % 9 := ⟨_, rfl⟩
      have m1 : x.tmod 9 = d := by rw [Int.tmod_eq_emod_of_nonneg hx.1, hd]
      have hm1 : 0 ≤ d ∧ d < 9 := by omega
      have HD := Lib.hid hd
      have e1 : IntKind.u16.wrap d = d := by rw [IntKind.wrap_u16]; omega
      have e2 : IntKind.u16.wrap (1 + d) = 1 + d := by rw [IntKind.wrap_u16]; omega
      have e5 : IntKind.i64.wrap ((k : Int) + 1) = (k : Int) + 1 := by rw [IntKind.wrap_i64]; have := HL.out; omega
      clear hcc hxe hlt hk hst hout hln hd hx
      go_wp2_with fail
      refine (contains_u16 _ out (1 + d) wr (NsAt.of_own HOW.out).1 (by have := HLN.out; have := HL.out; have := HLT.out; omega)).mono ?_
      rintro _ w9 ⟨rfl, h9⟩
      rw [h9]
      clear h9
      by_cases hc : 1 + d ∈ out
      · have q1 : decide (1 + d ∈ out) = true := decide_eq_true hc
        have HCC := Lib.hid hc
        rw [q1]
        clear hc q1
        go_wp2_with fail
        refine ⟨⟨k + 1, by have := HLT.out; omega, by simp, ?_, HB.out⟩, by have := HLT.out; simp [intOf]; omega⟩
        have hs := HST.out
        unfold st7 at hs
        rw [← HD.out, if_pos HCC.out] at hs
        rw [hs]
        exact HOW.out
      · have q1 : decide (1 + d ∈ out) = false := decide_eq_false hc
        have HCC := Lib.hid hc
        obtain ⟨sp, sc, hsv⟩ := own_slice HOW.out
        obtain ⟨v6, w6, hr6, ho6, hb6⟩ := append_u16 (wr.alloc (.cells #[.int .u16 (1 + d)] 34)) w.heap.size 65 u3 out.length out (own_alloc HOW.out _) wr.heap.size (1 + d) (Row.new wr _ _) (by have := HLN.out; have := HL.out; have := HLT.out; omega) (by have := HB.out.size; simp; omega)
        have HR6 := Lib.hid hr6
        have HO6 := Lib.hid ho6
        have HB6 := Lib.hid ((below_alloc HB.out (.cells #[.int .u16 (1 + d)] 34)).trans hb6)
        rw [q1]
        clear hc q1 hr6 ho6 hb6
        subst hsv
        go_wp2_with (first | (at_builtin; refine ev_run rfl (run_app_op _ _ _ _ rfl rfl rfl HR6.out) ?_))
        refine ⟨⟨k + 1, by have := HLT.out; omega, by simp, ?_, HB6.out⟩, by have := HLT.out; simp [intOf]; omega⟩
        have hs := HST.out
        unfold st7 at hs
        rw [← HD.out, if_neg HCC.out] at hs
        rw [hs, List.length_append]
        exact HO6.out
    · have i1 : ¬ (k : Int) < (l.length : Int) := by omega
      obtain rfl : k = l.length := by omega
      rw [List.take_length] at HOW hln
      have HLN := Lib.hid hln
      clear hlt hk hln
      go_wp2_with fail
      refine (sort_own w.heap.size u3 _ _ wr HOW.out (by have := HLN.out; have := HL.out; omega) HB.out.size).mono ?_
      rintro _ w1 ⟨rfl, ys, hp, hso, ho, hb⟩
      have HP := Lib.hid (And.intro hp (And.intro hso (And.intro ho hb)))
      clear hp hso ho hb
      go_wp2_with fail
      go_ret
      have h := HP.out
      exact ⟨_, ys, rfl, h.1, h.2.1, by rw [h.1.length_eq]; exact h.2.2.1, HB.out.trans h.2.2.2⟩
end Go.Proofs.YtbhjkddjgikaiaaGreatDoor

namespace Go.Proofs.YtbhjkddjgikaiaaGreatDoor
open Go.RowKit
set_option linter.unusedVariables false
set_option linter.unusedSimpArgs false
def FrOk (B : Nat) (c : List Ac) (u k : List Int) (w : World) (cv uv kv : Value) : Prop :=
  w.ownsRow B 80 4 cv c.length (c.flatMap ac) ∧ w.ownsRow B 34 1 uv u.length (nv .u16 u) ∧ w.ownsRow B 44 1 kv k.length (nv .i32 k)
theorem own_type {w : World} {B n size g : Nat} {e t : TypeId} {v : Value} {xs : List Value} {cs : Array Value} (h : w.ownsRow B e size v n xs) (R : Row w g cs t) (ht : t ≠ e) : v.ownBlock ≠ some g := fun he => by
  obtain ⟨cs2, h2⟩ := own_cells h he
  have h3 := h2.symm.trans R
  simp at h3
  exact ht h3.2.symm
theorem FrOk.below {B : Nat} {c : List Ac} {u k : List Int} {w w' : World} {cv uv kv : Value} (h : FrOk B c u k w cv uv kv) (hb : Below w.heap.size w w') : FrOk B c u k w' cv uv kv := ⟨ownW_below h.1 hb, ownW_below h.2.1 hb, ownW_below h.2.2 hb⟩
theorem FrOk.stored {B g : Nat} {c : List Ac} {u k : List Int} {w w' : World} {cv uv kv : Value} {cs : Array Value} (h : FrOk B c u k w cv uv kv) (R : Row w g cs 67) (hs : Stored w g w') : FrOk B c u k w' cv uv kv :=
  ⟨ownW_stored h.1 hs (own_type h.1 R (by show ¬ (67 : Nat) = 80; omega)), ownW_stored h.2.1 hs (own_type h.2.1 R (by show ¬ (67 : Nat) = 34; omega)), ownW_stored h.2.2 hs (own_type h.2.2 R (by show ¬ (67 : Nat) = 44; omega))⟩
theorem perm_sorted : ∀ (l m : List Int), l.Perm m → l.Pairwise (· ≤ ·) → m.Pairwise (· ≤ ·) → l = m
  | [], m, h, _, _ => (List.Perm.nil_eq h)
  | a :: l, [], h, _, _ => by have := h.length_eq; simp at this
  | a :: l, b :: m, h, h1, h2 => by
    have hab : a = b := by
      have ha : a ∈ b :: m := h.subset (List.mem_cons_self)
      have hb : b ∈ a :: l := h.symm.subset (List.mem_cons_self)
      rcases List.mem_cons.1 ha with e | ha
      · exact e
      · rcases List.mem_cons.1 hb with e | hb
        · exact e.symm
        · have x1 := (List.pairwise_cons.1 h1).1 b hb
          have x2 := (List.pairwise_cons.1 h2).1 a ha
          omega
    subst hab
    rw [perm_sorted l m (List.Perm.cons_inv h) (List.pairwise_cons.1 h1).2 (List.pairwise_cons.1 h2).2]
def srt (l : List Int) : List Int := l.mergeSort fun a b => decide (a ≤ b)
theorem srt_sorted (l : List Int) : (srt l).Pairwise (· ≤ ·) := by
  have h := List.pairwise_mergeSort (le := fun (a b : Int) => decide (a ≤ b)) (fun a b c h1 h2 => by simp at *; omega) (fun a b => by simp; omega) l
  exact h.imp (fun h => by simpa using h)
theorem srt_eq {l m : List Int} (h : m.Perm l) (hs : m.Pairwise (· ≤ ·)) : m = srt l := perm_sorted m _ (h.trans (List.mergeSort_perm l _).symm) hs (srt_sorted l)
def cash : Ac := ⟨7, ⟨#[67, 97, 115, 104]⟩, 0, 0⟩
def chartOf (l : List A6) : List Ac := if l.length = 0 then [cash] else (mk6 l).1
def unitsOf (l : List Int) : List Int := if (mk7 l).length = 0 then [5] else srt (mk7 l)
def startsOf (first : Int) (long : List Int) : List Int := Sc.mkStarts first long (min long.length 12)
def endOf (first : Int) (long : List Int) : Int := Sc.dayAt first long (min long.length 12) + 31
set_option maxHeartbeats 8000000 in
set_option maxRecDepth 100000 in
theorem frame_any (a : Option Addr) (cap : Nat) (l : List A6) (vu : Value) (lu : List Int) (first : Int) (vl : Value) (long : List Int) (vj : Value) (w : World)
    (hE : ElsAt a6 4 a60 w a l) (hok : ∀ x ∈ l, x.ok) (hl : l.length ≤ 20) (hU : NsAt .u16 w vu lu) (hub : ∀ n ∈ lu, 0 ≤ n ∧ n ≤ 65535) (hul : lu.length ≤ 8)
    (hf : -32768 ≤ first ∧ first ≤ 32767) (hlb : ∀ n ∈ long, 0 ≤ n ∧ n ≤ 255) (hll : long.length ≤ 8) (hL : NsAt .u8 w vl long) (hj : vj.oneCell' = true) :
    Calls Tryz.prog 29 #[.agg #[.slice a l.length cap, vu, .int .i16 first, vl, vj]] w fun e w' => ∃ cv uv kv, e = .returned (.agg #[cv, uv, kv, .int .i32 (endOf first long)]) ∧ FrOk w.heap.size (chartOf l) (unitsOf lu) (startsOf first long) w' cv uv kv ∧ Below w.heap.size w w' := by
  have M6 := Lib.hid (fun W (hb : Below w.heap.size w W) => make6_any a cap l W (hE.below hb) hok (by omega))
  have M7 := Lib.hid (fun W (hb : Below w.heap.size w W) => make7_any vu lu W (hU.below hb) hub hul)
  have M8 := Lib.hid (fun W (hb : Below w.heap.size w W) => make8_any first vl long hf hlb (by omega) W (hL.below hb))
  obtain ⟨pu, cu, rfl, _⟩ := hU
  obtain ⟨pl, cl, rfl, _⟩ := hL
  have HL := Lib.hid (And.intro hl (And.intro hul hll))
  have BX := below_alloc (below_alloc (Below.refl _ w) (.cells #[.slice a l.length cap, .slice pu lu.length cu, .int .i16 first, .slice pl long.length cl, vj] 62)) (.cells #[.slice none 0 0, .slice none 0 0, .slice none 0 0, .int .i32 0] 67)
  have RX := (Row.new w #[.slice a l.length cap, .slice pu lu.length cu, .int .i16 first, .slice pl long.length cl, vj] 62).alloc (.cells #[.slice none 0 0, .slice none 0 0, .slice none 0 0, .int .i32 0] 67)
  have RR := Row.new' (w.alloc (.cells #[.slice a l.length cap, .slice pu lu.length cu, .int .i16 first, .slice pl long.length cl, vj] 62)) #[.slice none 0 0, .slice none 0 0, .slice none 0 0, .int .i32 0] 67 (g := w.heap.size + 1) (by simp)
  clear hE hok hl hub hul hf hlb hll
  go_enter Tryz.func29, Tryz.ntmps29
  go_wp2_with fail
  generalize (w.alloc (.cells #[.slice a l.length cap, .slice pu lu.length cu, .int .i16 first, .slice pl long.length cl, vj] 62)).alloc (.cells #[.slice none 0 0, .slice none 0 0, .slice none 0 0, .int .i32 0] 67) = w0 at *
  obtain ⟨y, hy⟩ : ∃ y, y = w.heap.size + 1 := ⟨_, rfl⟩
  obtain ⟨x, hx⟩ : ∃ x, x = w.heap.size := ⟨_, rfl⟩
  rw [← hy] at RR ⊢
  rw [← hx] at RX ⊢
  have HXY := Lib.hid (And.intro hx hy)
  have HRX := Lib.hid RX
  have HRR := Lib.hid RR
  have HBX := Lib.hid BX
  clear hx hy RX RR BX
  obtain ⟨E, hE⟩ : ∃ E, E = endOf first long := ⟨_, rfl⟩
  refine region_made (n := 14) 13 10 (by kernel_rfl) (fun w' => Below w0.heap.size w0 w') (fun i w' v => match i with
      | 2 => w'.ownsRow w0.heap.size 80 4 v l.length ((mk6 l).1.flatMap ac)
      | 5 => w'.ownsRow w0.heap.size 34 1 v (srt (mk7 lu)).length (nv .u16 (srt (mk7 lu)))
      | 10 => ∃ kv, v = .agg #[kv, .int .i32 E] ∧ w'.ownsRow w0.heap.size 44 1 kv (startsOf first long).length (nv .i32 (startsOf first long))
      | 11 => ∃ cv uv kv, v = .agg #[cv, uv, kv, .int .i32 E] ∧ w'.ownsRow w0.heap.size 80 4 cv l.length ((mk6 l).1.flatMap ac) ∧ w'.ownsRow w0.heap.size 34 1 uv (srt (mk7 lu)).length (nv .u16 (srt (mk7 lu))) ∧ w'.ownsRow w0.heap.size 44 1 kv (startsOf first long).length (nv .i32 (startsOf first long))
      | 12 => ∃ g, v = .pointer (some ⟨g, 0, none⟩) ∧ w0.heap.size ≤ g ∧ Row w' g #[.slice none 0 0, .slice none 0 0, .slice none 0 0, .int .i32 0] 67
      | i => v = (#[.pointer (some ⟨x, 0, none⟩), .slice a l.length cap, undef, .pointer (some ⟨x, 1, none⟩), .slice pu lu.length cu, undef, .pointer (some ⟨x, 2, none⟩), .int .i16 first, .pointer (some ⟨x, 3, none⟩), .slice pl long.length cl] : Array Value).getD i undef)
    (fun c v w' => ∃ g cv uv kv, c 12 = .pointer (some ⟨g, 0, none⟩) ∧ w0.heap.size ≤ g ∧ Row w' g #[cv, uv, kv, .int .i32 E] 67 ∧ w'.ownsRow w0.heap.size 80 4 cv l.length ((mk6 l).1.flatMap ac) ∧ w'.ownsRow w0.heap.size 34 1 uv (srt (mk7 lu)).length (nv .u16 (srt (mk7 lu))) ∧ w'.ownsRow w0.heap.size 44 1 kv (startsOf first long).length (nv .i32 (startsOf first long)) ∧ Below w0.heap.size w0 w') (by kernel_rfl) (by kernel_rfl) (by kernel_rfl) (below_dr (Below.refl _ _)) rfl (fun _ _ a b => below_then a b) (fun i w1 w2 v hb h => by
      rcases i with _ | _ | _ | _ | _ | _ | _ | _ | _ | _ | _ | _ | _ | i
      all_goals (first | exact h | exact ownW_below h hb | skip)
      · obtain ⟨kv, h1, h2⟩ := h; exact ⟨kv, h1, ownW_below h2 hb⟩
      · obtain ⟨cv, uv, kv, h1, h2, h3, h4⟩ := h; exact ⟨cv, uv, kv, h1, ownW_below h2 hb, ownW_below h3 hb, ownW_below h4 hb⟩
      · obtain ⟨g, h1, h2, h3⟩ := h; exact ⟨g, h1, h2, h3.below hb⟩) ?_
  intro F Fz hF hFz
  simp only [fill, updV, dstAt] at hF hFz
  simp [Act.put] at hF hFz
  obtain rfl : F = fun c => _ := funext fun c => (hF c).symm
  obtain rfl : Fz = fun c v => _ := funext fun c => funext fun v => (hFz c v).symm
  clear hF hFz
  refine ⟨?_, ?_, ?_⟩
  · intro i op ho n1 c wx S hG
    have RX := HRX.out.below S
    have d0 : wx.cell? ⟨x, 0, none⟩ = some (.slice a l.length cap) := RX.cell 0
    have d1 : wx.cell? ⟨x, 1, none⟩ = some (.slice pu lu.length cu) := RX.cell 1
    have d2 : wx.cell? ⟨x, 2, none⟩ = some (.int .i16 first) := RX.cell 2
    have d3 : wx.cell? ⟨x, 3, none⟩ = some (.slice pl long.length cl) := RX.cell 3
    have BW := Lib.hid (HBX.out.trans (S.mono HBX.out.size))
    rcases i with _ | _ | _ | _ | _ | _ | _ | _ | _ | _ | _ | _ | _ | _ | i
    all_goals (first | (exact absurd rfl n1) | (simp at ho; done) | (obtain rfl := Option.some.inj ho))
    · exact yx_val _ rfl (by go_simp) ⟨Below.refl _ _, rfl⟩
    · have g0 : c 0 = .pointer (some ⟨x, 0, none⟩) := hG 0 rfl (by omega)
      exact yx_val (.slice a l.length cap) rfl (by simp only [g0]; go_simp) ⟨Below.refl _ _, rfl⟩
    · have g1 : c 1 = .slice a l.length cap := hG 1 rfl (by omega)
      exact yx_call rfl rfl Tryz.func76 (by kernel_rfl) rfl #[.slice a l.length cap] (by simp only [g1]; go_simp) ((M6.out wx BW.out).mono fun e w' ⟨v, h1, h2, h3⟩ => ⟨v, h1, h3, ownMono h2 S.size⟩)
    · exact yx_val _ rfl (by go_simp) ⟨Below.refl _ _, rfl⟩
    · have g3 : c 3 = .pointer (some ⟨x, 1, none⟩) := hG 3 rfl (by omega)
      exact yx_val (.slice pu lu.length cu) rfl (by simp only [g3]; go_simp) ⟨Below.refl _ _, rfl⟩
    · have g4 : c 4 = .slice pu lu.length cu := hG 4 rfl (by omega)
      exact yx_call rfl rfl Tryz.func77 (by kernel_rfl) rfl #[.slice pu lu.length cu] (by simp only [g4]; go_simp) ((M7.out wx BW.out).mono fun e w' ⟨v, ys, h1, h2, h3, h4, h5⟩ => ⟨v, h1, h5, by rw [srt_eq h2 h3] at h4; exact ownMono h4 S.size⟩)
    · exact yx_val _ rfl (by go_simp) ⟨Below.refl _ _, rfl⟩
    · have g6 : c 6 = .pointer (some ⟨x, 2, none⟩) := hG 6 rfl (by omega)
      exact yx_val (.int .i16 first) rfl (by simp only [g6]; go_simp) ⟨Below.refl _ _, rfl⟩
    · exact yx_val _ rfl (by go_simp) ⟨Below.refl _ _, rfl⟩
    · have g8 : c 8 = .pointer (some ⟨x, 3, none⟩) := hG 8 rfl (by omega)
      exact yx_val (.slice pl long.length cl) rfl (by simp only [g8]; go_simp) ⟨Below.refl _ _, rfl⟩
    · have g7 : c 7 = .int .i16 first := hG 7 rfl (by omega)
      have g9 : c 9 = .slice pl long.length cl := hG 9 rfl (by omega)
      exact yx_call rfl rfl Tryz.func65 (by kernel_rfl) rfl #[.int .i16 first, .slice pl long.length cl] (by simp only [g7, g9]; go_simp) ((M8.out wx BW.out).mono fun e w' ⟨v, h1, h2, h3⟩ => ⟨_, h1, h3, v, by rw [hE]; rfl, by
        have hs : (startsOf first long).length = min long.length 12 + 1 := by unfold startsOf Sc.mkStarts; simp
        rw [hs]
        exact ownMono h2 S.size⟩)
    · have g2 := hG 2 rfl (by omega)
      have g5 := hG 5 rfl (by omega)
      obtain ⟨kv, g10, h10⟩ := hG 10 rfl (by omega)
      obtain ⟨p2, c2, e2⟩ := own_slice g2
      obtain ⟨p5, c5, e5⟩ := own_slice g5
      obtain ⟨p10, c10, rfl⟩ := own_slice h10
      exact yx_val (.agg #[c 2, c 5, .slice p10 (startsOf first long).length c10, .int .i32 E]) rfl (by simp only [g10, e2, e5]; go_simp) ⟨Below.refl _ _, _, _, _, rfl, g2, g5, h10⟩
    · exact yx_valw _ (wx.alloc (.cells #[.slice none 0 0, .slice none 0 0, .slice none 0 0, .int .i32 0] 67)) rfl (by go_simp) ⟨below_alloc (Below.refl _ wx) _, wx.heap.size, rfl, S.size, Row.new wx _ _⟩
  · intro op ho c wx S hG
    obtain rfl := Option.some.inj ho
    obtain ⟨g, g12, hg, RG⟩ := hG 12 (by omega) (by omega)
    obtain ⟨cv, uv, kv, g11, o1, o2, o3⟩ := hG 11 (by omega) (by omega)
    obtain ⟨p1, c1, rfl⟩ := own_slice o1
    obtain ⟨p2, c2, rfl⟩ := own_slice o2
    obtain ⟨p3, c3, rfl⟩ := own_slice o3
    have t1 := own_type o1 RG (by show ¬ (67 : Nat) = 80; omega)
    have t2 := own_type o2 RG (by show ¬ (67 : Nat) = 34; omega)
    have t3 := own_type o3 RG (by show ¬ (67 : Nat) = 44; omega)
    refine yx_of (S := fun w' => Row w' g _ 67 ∧ Stored wx g w') (yv_store rfl 67 _ _ rfl g _ g12 g11 RG (by kernel_rfl) rfl (by simp [Value.oneCell']) (fun w1 R1 S1 => ⟨R1, S1⟩)) (fun w' ⟨R1, S1⟩ => ⟨g, _, _, _, g12, hg, R1, ownW_stored o1 S1 t1, ownW_stored o2 S1 t2, ownW_stored o3 S1 t3, S1.below S hg⟩)
  · rintro c v wx ⟨g, cv, uv, kv, g12, hg, RG, o1, o2, o3, SX⟩
    simp only [g12]
    obtain ⟨p1, c1, rfl⟩ := own_slice o1
    obtain ⟨p2, c2, rfl⟩ := own_slice o2
    obtain ⟨p3, c3, rfl⟩ := own_slice o3
    have hyg : y ≠ g := by have := HRR.out.lt; omega
    have hgw : w.heap.size ≤ g := by have := HBX.out.size; omega
    have RY := HRR.out.below SX
    have BW := HBX.out.trans (SX.mono HBX.out.size)
    have o1' := ownMono o1 HBX.out.size
    have o2' := ownMono o2 HBX.out.size
    have o3' := ownMono o3 HBX.out.size
    have hlen6 := mk6_len l
    have hu7 : (srt (mk7 lu)).length = (mk7 lu).length := (List.mergeSort_perm (mk7 lu) _).length_eq
    have HS := Lib.hid (And.intro hyg (And.intro hgw (And.intro hlen6 hu7)))
    have HRG := Lib.hid RG
    have HRY := Lib.hid RY
    have HBW := Lib.hid BW
    have HO := Lib.hid (And.intro o1' (And.intro o2' o3'))
    have HEE := Lib.hid hE
    have HW0 := Lib.hid hg
    clear g12 hg RG o1 o2 o3 SX hyg hgw RY BW o1' o2' o3' hlen6 hu7 hE
    have b0 : wx.cell? ⟨g, 0, none⟩ = some (.slice p1 l.length c1) := HRG.out.cell 0
    by_cases hc : l.length = 0
    · have q1 : ((l.length : Int) == 0) = true := by rw [hc]; rfl
      have HC := Lib.hid hc
      clear hc
      have cA : (wx.alloc (.cells #[.int .u32 7, .string ⟨#[67, 97, 115, 104]⟩, .int .u8 0, .int .u32 0] 80)).cell? ⟨g, 0, none⟩ = some (.slice p1 l.length c1) := (HRG.out.alloc _).cell 0
      have fA : (wx.alloc (.cells #[.int .u32 7, .string ⟨#[67, 97, 115, 104]⟩, .int .u8 0, .int .u32 0] 80)).frozen? ⟨g, 0, none⟩ = false := (HRG.out.alloc _).frozen 0
      obtain ⟨w1, hw1⟩ : ∃ w1, w1 = (wx.alloc (.cells #[.int .u32 7, .string ⟨#[67, 97, 115, 104]⟩, .int .u8 0, .int .u32 0] 80)).setCell ⟨g, 0, none⟩ (.slice (some ⟨wx.heap.size, 0, none⟩) 1 1) := ⟨_, rfl⟩
      have SX1 : Stored (wx.alloc (.cells #[.int .u32 7, .string ⟨#[67, 97, 115, 104]⟩, .int .u8 0, .int .u32 0] 80)) g w1 := by rw [hw1]; exact stored_setCell _ _ _ _
      have HRG1 : Hid (Row w1 g #[.slice (some ⟨wx.heap.size, 0, none⟩) 1 1, .slice p2 (srt (mk7 lu)).length c2, .slice p3 (startsOf first long).length c3, .int .i32 E] 67) := Lib.hid (by rw [hw1]; exact (HRG.out.alloc _).set 0 _)
      have HRY1 : Hid (Row w1 y #[.slice none 0 0, .slice none 0 0, .slice none 0 0, .int .i32 0] 67) := Lib.hid (by rw [hw1]; exact (HRY.out.alloc _).other ⟨g, 0, none⟩ HS.out.1 _)
      have HBW1 := Lib.hid (SX1.below (below_alloc HBW.out (.cells #[.int .u32 7, .string ⟨#[67, 97, 115, 104]⟩, .int .u8 0, .int .u32 0] 80)) HS.out.2.1)
      have RC : Row (wx.alloc (.cells #[.int .u32 7, .string ⟨#[67, 97, 115, 104]⟩, .int .u8 0, .int .u32 0] 80)) wx.heap.size #[.int .u32 7, .string ⟨#[67, 97, 115, 104]⟩, .int .u8 0, .int .u32 0] 80 := Row.new wx _ _
      have HO1 : Hid (FrOk w.heap.size (chartOf l) (srt (mk7 lu)) (startsOf first long) w1 (.slice (some ⟨wx.heap.size, 0, none⟩) 1 1) (.slice p2 (srt (mk7 lu)).length c2) (.slice p3 (startsOf first long).length c3)) := Lib.hid (by
        have e : chartOf l = [cash] := by unfold chartOf; rw [if_pos HC.out]
        rw [e]
        exact FrOk.stored (⟨⟨rfl, .inr ⟨_, 1, _, rfl, HBW.out.size, RC, Nat.le_refl _, by unfold maxLen; omega, rfl, rfl⟩⟩, own_alloc HO.out.2.1 _, own_alloc HO.out.2.2 _⟩ : FrOk _ [cash] _ _ _ _ _ _) (HRG.out.alloc _) SX1)
      have HE1 := Lib.hid hw1
      clear hw1 SX1 RC
      have b1 : w1.cell? ⟨g, 1, none⟩ = some (.slice p2 (srt (mk7 lu)).length c2) := HRG1.out.cell 1
      by_cases hu : (mk7 lu).length = 0
      · have q2 : (((srt (mk7 lu)).length : Int) == 0) = true := by rw [HS.out.2.2.2, hu]; rfl
        have HU := Lib.hid hu
        clear hu
        have cB : (w1.alloc (.cells #[.int .u16 5] 34)).cell? ⟨g, 1, none⟩ = some (.slice p2 (srt (mk7 lu)).length c2) := (HRG1.out.alloc _).cell 1
        have fB : (w1.alloc (.cells #[.int .u16 5] 34)).frozen? ⟨g, 1, none⟩ = false := (HRG1.out.alloc _).frozen 1
        have HG2 : Hid (Row ((w1.alloc (.cells #[.int .u16 5] 34)).setCell ⟨g, 1, none⟩ (.slice (some ⟨w1.heap.size, 0, none⟩) 1 1)) g #[.slice (some ⟨wx.heap.size, 0, none⟩) 1 1, .slice (some ⟨w1.heap.size, 0, none⟩) 1 1, .slice p3 (startsOf first long).length c3, .int .i32 E] 67) := Lib.hid ((HRG1.out.alloc _).set 1 _)
        have HY2 : Hid (Row ((w1.alloc (.cells #[.int .u16 5] 34)).setCell ⟨g, 1, none⟩ (.slice (some ⟨w1.heap.size, 0, none⟩) 1 1)) y #[.slice none 0 0, .slice none 0 0, .slice none 0 0, .int .i32 0] 67) := Lib.hid ((HRY1.out.alloc _).other ⟨g, 1, none⟩ HS.out.1 _)
        have SX2 := stored_setCell (w1.alloc (.cells #[.int .u16 5] 34)) g 1 (.slice (some ⟨w1.heap.size, 0, none⟩) 1 1)
        have HB2 := Lib.hid (SX2.below (below_alloc HBW1.out (.cells #[.int .u16 5] 34)) HS.out.2.1)
        have RU : Row (w1.alloc (.cells #[.int .u16 5] 34)) w1.heap.size #[.int .u16 5] 34 := Row.new w1 _ _
        have HF2 : Hid (FrOk w.heap.size (chartOf l) (unitsOf lu) (startsOf first long) ((w1.alloc (.cells #[.int .u16 5] 34)).setCell ⟨g, 1, none⟩ (.slice (some ⟨w1.heap.size, 0, none⟩) 1 1)) (.slice (some ⟨wx.heap.size, 0, none⟩) 1 1) (.slice (some ⟨w1.heap.size, 0, none⟩) 1 1) (.slice p3 (startsOf first long).length c3)) := Lib.hid (by
          have e : unitsOf lu = [5] := by unfold unitsOf; rw [if_pos HU.out]
          rw [e]
          exact FrOk.stored (⟨own_alloc HO1.out.1 _, ⟨rfl, .inr ⟨_, 1, _, rfl, HBW1.out.size, RU, Nat.le_refl _, by unfold maxLen; omega, rfl, rfl⟩⟩, own_alloc HO1.out.2.2 _⟩ : FrOk _ _ [5] _ _ _ _ _) (HRG1.out.alloc _) SX2)
        clear SX2 RU
        go_wp2_with (first | (simp only [← HE1.out]) | (refine ev_load (N := 29) rfl rfl 67 _ rfl g rfl HG2.out _ Tryz.underlying67 rfl (by kernel_rfl) ?_) | (refine ev_store rfl 67 _ _ rfl y _ rfl rfl HY2.out (by kernel_rfl) rfl (by simp [Value.oneCell']) rfl ?_; intro w3 RZ S3))
        exact bodyPost_ret (v := .agg #[.slice (some ⟨wx.heap.size, 0, none⟩) 1 1, .slice (some ⟨w1.heap.size, 0, none⟩) 1 1, .slice p3 (startsOf first long).length c3, .int .i32 E]) (res_row rfl _ _ RZ rfl Tryz.underlying67 rfl (by kernel_rfl)) rfl ⟨_, _, _, by rw [HEE.out], FrOk.stored HF2.out HY2.out S3, S3.below HB2.out (by have := HXY.out; omega)⟩
      · have q2 : (((srt (mk7 lu)).length : Int) == 0) = false := beq_eq_false_iff_ne.2 (by rw [HS.out.2.2.2]; omega)
        have HU := Lib.hid hu
        clear hu
        have HF2 : Hid (FrOk w.heap.size (chartOf l) (unitsOf lu) (startsOf first long) w1 (.slice (some ⟨wx.heap.size, 0, none⟩) 1 1) (.slice p2 (srt (mk7 lu)).length c2) (.slice p3 (startsOf first long).length c3)) := Lib.hid (by
          have e : unitsOf lu = srt (mk7 lu) := by unfold unitsOf; rw [if_neg HU.out]
          rw [e]
          exact HO1.out)
        go_wp2_with (first | (simp only [← HE1.out]) | (refine ev_load (N := 29) rfl rfl 67 _ rfl g rfl HRG1.out _ Tryz.underlying67 rfl (by kernel_rfl) ?_) | (refine ev_store rfl 67 _ _ rfl y _ rfl rfl HRY1.out (by kernel_rfl) rfl (by simp [Value.oneCell']) rfl ?_; intro w3 RZ S3))
        exact bodyPost_ret (v := .agg #[.slice (some ⟨wx.heap.size, 0, none⟩) 1 1, .slice p2 (srt (mk7 lu)).length c2, .slice p3 (startsOf first long).length c3, .int .i32 E]) (res_row rfl _ _ RZ rfl Tryz.underlying67 rfl (by kernel_rfl)) rfl ⟨_, _, _, by rw [HEE.out], FrOk.stored HF2.out HRY1.out S3, S3.below HBW1.out (by have := HXY.out; omega)⟩
    · have q1 : ((l.length : Int) == 0) = false := beq_eq_false_iff_ne.2 (by omega)
      have HC := Lib.hid hc
      clear hc
      have HRG1 := HRG
      have HRY1 := HRY
      have HBW1 := HBW
      have HO1 : Hid (FrOk w.heap.size (chartOf l) (srt (mk7 lu)) (startsOf first long) wx (.slice p1 l.length c1) (.slice p2 (srt (mk7 lu)).length c2) (.slice p3 (startsOf first long).length c3)) := Lib.hid (by
        have e : chartOf l = (mk6 l).1 := by unfold chartOf; rw [if_neg HC.out]
        rw [e]
        exact ⟨by rw [HS.out.2.2.1]; exact HO.out.1, HO.out.2⟩)
      have b1 : wx.cell? ⟨g, 1, none⟩ = some (.slice p2 (srt (mk7 lu)).length c2) := HRG1.out.cell 1
      by_cases hu : (mk7 lu).length = 0
      · have q2 : (((srt (mk7 lu)).length : Int) == 0) = true := by rw [HS.out.2.2.2, hu]; rfl
        have HU := Lib.hid hu
        clear hu
        have cB : (wx.alloc (.cells #[.int .u16 5] 34)).cell? ⟨g, 1, none⟩ = some (.slice p2 (srt (mk7 lu)).length c2) := (HRG1.out.alloc _).cell 1
        have fB : (wx.alloc (.cells #[.int .u16 5] 34)).frozen? ⟨g, 1, none⟩ = false := (HRG1.out.alloc _).frozen 1
        have HG2 : Hid (Row ((wx.alloc (.cells #[.int .u16 5] 34)).setCell ⟨g, 1, none⟩ (.slice (some ⟨wx.heap.size, 0, none⟩) 1 1)) g #[.slice p1 l.length c1, .slice (some ⟨wx.heap.size, 0, none⟩) 1 1, .slice p3 (startsOf first long).length c3, .int .i32 E] 67) := Lib.hid ((HRG1.out.alloc _).set 1 _)
        have HY2 : Hid (Row ((wx.alloc (.cells #[.int .u16 5] 34)).setCell ⟨g, 1, none⟩ (.slice (some ⟨wx.heap.size, 0, none⟩) 1 1)) y #[.slice none 0 0, .slice none 0 0, .slice none 0 0, .int .i32 0] 67) := Lib.hid ((HRY1.out.alloc _).other ⟨g, 1, none⟩ HS.out.1 _)
        have SX2 := stored_setCell (wx.alloc (.cells #[.int .u16 5] 34)) g 1 (.slice (some ⟨wx.heap.size, 0, none⟩) 1 1)
        have HB2 := Lib.hid (SX2.below (below_alloc HBW1.out (.cells #[.int .u16 5] 34)) HS.out.2.1)
        have RU : Row (wx.alloc (.cells #[.int .u16 5] 34)) wx.heap.size #[.int .u16 5] 34 := Row.new wx _ _
        have HF2 : Hid (FrOk w.heap.size (chartOf l) (unitsOf lu) (startsOf first long) ((wx.alloc (.cells #[.int .u16 5] 34)).setCell ⟨g, 1, none⟩ (.slice (some ⟨wx.heap.size, 0, none⟩) 1 1)) (.slice p1 l.length c1) (.slice (some ⟨wx.heap.size, 0, none⟩) 1 1) (.slice p3 (startsOf first long).length c3)) := Lib.hid (by
          have e : unitsOf lu = [5] := by unfold unitsOf; rw [if_pos HU.out]
          rw [e]
          exact FrOk.stored (⟨own_alloc HO1.out.1 _, ⟨rfl, .inr ⟨_, 1, _, rfl, HBW1.out.size, RU, Nat.le_refl _, by unfold maxLen; omega, rfl, rfl⟩⟩, own_alloc HO1.out.2.2 _⟩ : FrOk _ _ [5] _ _ _ _ _) (HRG1.out.alloc _) SX2)
        clear SX2 RU
        go_wp2_with (first | (refine ev_load (N := 29) rfl rfl 67 _ rfl g rfl HG2.out _ Tryz.underlying67 rfl (by kernel_rfl) ?_) | (refine ev_store rfl 67 _ _ rfl y _ rfl rfl HY2.out (by kernel_rfl) rfl (by simp [Value.oneCell']) rfl ?_; intro w3 RZ S3))
        exact bodyPost_ret (v := .agg #[.slice p1 l.length c1, .slice (some ⟨wx.heap.size, 0, none⟩) 1 1, .slice p3 (startsOf first long).length c3, .int .i32 E]) (res_row rfl _ _ RZ rfl Tryz.underlying67 rfl (by kernel_rfl)) rfl ⟨_, _, _, by rw [HEE.out], FrOk.stored HF2.out HY2.out S3, S3.below HB2.out (by have := HXY.out; omega)⟩
      · have q2 : (((srt (mk7 lu)).length : Int) == 0) = false := beq_eq_false_iff_ne.2 (by rw [HS.out.2.2.2]; omega)
        have HU := Lib.hid hu
        clear hu
        have HF2 : Hid (FrOk w.heap.size (chartOf l) (unitsOf lu) (startsOf first long) wx (.slice p1 l.length c1) (.slice p2 (srt (mk7 lu)).length c2) (.slice p3 (startsOf first long).length c3)) := Lib.hid (by
          have e : unitsOf lu = srt (mk7 lu) := by unfold unitsOf; rw [if_neg HU.out]
          rw [e]
          exact HO1.out)
        go_wp2_with (first | (refine ev_load (N := 29) rfl rfl 67 _ rfl g rfl HRG1.out _ Tryz.underlying67 rfl (by kernel_rfl) ?_) | (refine ev_store rfl 67 _ _ rfl y _ rfl rfl HRY1.out (by kernel_rfl) rfl (by simp [Value.oneCell']) rfl ?_; intro w3 RZ S3))
        exact bodyPost_ret (v := .agg #[.slice p1 l.length c1, .slice p2 (srt (mk7 lu)).length c2, .slice p3 (startsOf first long).length c3, .int .i32 E]) (res_row rfl _ _ RZ rfl Tryz.underlying67 rfl (by kernel_rfl)) rfl ⟨_, _, _, by rw [HEE.out], FrOk.stored HF2.out HRY1.out S3, S3.below HBW1.out (by have := HXY.out; omega)⟩
end Go.Proofs.YtbhjkddjgikaiaaGreatDoor

namespace Go.Proofs.YtbhjkddjgikaiaaGreatDoor
open Go.RowKit
set_option linter.unusedVariables false
set_option linter.unusedSimpArgs false
structure L10 where
  acc : Nat
  ent : Nat
  cnt : Nat
  amt : Int
def l10 (x : L10) : List Value := [.int .u8 (x.acc : Int), .int .u8 (x.ent : Int), .int .u8 (x.cnt : Int), .int .i64 x.amt]
def l100 : L10 := ⟨0, 0, 0, 0⟩
def L10.ok (x : L10) : Prop := x.acc ≤ 255 ∧ x.ent ≤ 255 ∧ x.cnt ≤ 255 ∧ -9223372036854775808 ≤ x.amt ∧ x.amt ≤ 9223372036854775807
def lineOf (c : List Ac) (u : List Int) (x : L10) : Ln := ⟨(c.getD (x.acc % c.length) ac0).code, (u.getD (x.ent % u.length) 0).toNat, if x.cnt % 2 = 1 then (u.getD (x.cnt / 2 % u.length) 0).toNat else 0, x.amt⟩
set_option maxHeartbeats 8000000 in
set_option maxRecDepth 100000 in
theorem line_any (B : Nat) (c : List Ac) (u k : List Int) (cv uv kv : Value) (E : Int) (x : L10) (w : World) (hF : FrOk B c u k w cv uv kv) (hB : B ≤ w.heap.size) (hc : 0 < c.length) (hcl : c.length ≤ 1000) (hu : 0 < u.length) (hul : u.length ≤ 1000) (hub : ∀ z ∈ u, 0 ≤ z) (hx : x.ok) :
    Calls Tryz.prog 129 #[.agg (l10 x).toArray, .agg #[cv, uv, kv, .int .i32 E]] w fun e w' => e = .returned (.agg (ln (lineOf c u x)).toArray) ∧ Below w.heap.size w w' := by
  obtain ⟨hl1, pc, cc, hcv, hEc⟩ := els_ownG ac 4 ac0 (fun _ => rfl) (by decide) hF.1
  obtain ⟨⟨pu, cu, huv, hEu⟩, _⟩ := NsAt.of_own hF.2.1
  obtain ⟨pk, ck, hkv⟩ := own_slice hF.2.2
  subst hcv; subst huv; subst hkv
  obtain ⟨bc, oc, rfl, hcc⟩ : ∃ b o, pc = some ⟨b, o, none⟩ ∧ ∀ i, i < c.length → w.rangeAt b (o + i * 4) (ac (c.getD i ac0)) := by
    rcases hEc with h | h
    · rw [h] at hc; simp at hc
    · exact h
  obtain ⟨bu, ou, rfl, huu⟩ : ∃ b o, pu = some ⟨b, o, none⟩ ∧ ∀ i, i < u.length → w.cell? ⟨b, o + i, none⟩ = some (.int .u16 (u.getD i 0)) := by
    rcases hEu with h | h
    · rw [h] at hu; simp at hu
    · exact h
  obtain ⟨ra, hra⟩ : ∃ r, r = x.acc % c.length := ⟨_, rfl⟩
  obtain ⟨re, hre⟩ : ∃ r, r = x.ent % u.length := ⟨_, rfl⟩
  obtain ⟨rc, hrc⟩ : ∃ r, r = x.cnt / 2 % u.length := ⟨_, rfl⟩
  have hra2 : ra < c.length := by rw [hra]; exact Nat.mod_lt _ hc
  have hre2 : re < u.length := by rw [hre]; exact Nat.mod_lt _ hu
  have hrc2 : rc < u.length := by rw [hrc]; exact Nat.mod_lt _ hu
  have ca := hcc ra hra2 0 _ rfl
  have ce := huu re hre2
  have ck2 := huu rc hrc2
  obtain ⟨cd, hcd⟩ : ∃ z, z = (c.getD ra ac0).code := ⟨_, rfl⟩
  obtain ⟨ue, hue⟩ : ∃ z, z = (u.getD re 0).toNat := ⟨_, rfl⟩
  obtain ⟨uc, huc⟩ : ∃ z, z = (u.getD rc 0).toNat := ⟨_, rfl⟩
  have hue2 : u.getD re 0 = (ue : Int) := by rw [hue, Int.toNat_of_nonneg (hub _ (getD_mem hre2))]
  have huc2 : u.getD rc 0 = (uc : Int) := by rw [huc, Int.toNat_of_nonneg (hub _ (getD_mem hrc2))]
  have hline : lineOf c u x = ⟨cd, ue, if x.cnt % 2 = 1 then uc else 0, x.amt⟩ := by unfold lineOf; rw [← hra, ← hre, ← hrc, ← hcd, ← hue, ← huc]
  rw [hline]
  obtain ⟨cn, hcn⟩ : ∃ z, z = (if x.cnt % 2 = 1 then uc else 0) := ⟨_, rfl⟩
  rw [← hcn]
  have HCN := Lib.hid hcn
  clear hcn
  rw [← hcd] at ca
  rw [hue2] at ce
  rw [huc2] at ck2
  have m1 : (x.acc : Int).tmod (c.length : Int) = (ra : Int) := by rw [Int.tmod_eq_emod_of_nonneg (by omega), hra]; rfl
  have m2 : (x.ent : Int).tmod (u.length : Int) = (re : Int) := by rw [Int.tmod_eq_emod_of_nonneg (by omega), hre]; rfl
  have m3 : ((x.cnt / 2 : Nat) : Int).tmod (u.length : Int) = (rc : Int) := by rw [Int.tmod_eq_emod_of_nonneg (by omega), hrc]; rfl
  have BX := below_alloc (below_alloc (below_alloc (Below.refl _ w) (.cells (l10 x).toArray 205)) (.cells #[.slice (some ⟨bc, oc, none⟩) c.length cc, .slice (some ⟨bu, ou, none⟩) u.length cu, .slice pk k.length ck, .int .i32 E] 67)) (.cells #[.int .u32 0, .int .u16 0, .int .u16 0, .int .i64 0] 207)
  have RL := ((Row.new w (l10 x).toArray 205).alloc (.cells #[.slice (some ⟨bc, oc, none⟩) c.length cc, .slice (some ⟨bu, ou, none⟩) u.length cu, .slice pk k.length ck, .int .i32 E] 67)).alloc (.cells #[.int .u32 0, .int .u16 0, .int .u16 0, .int .i64 0] 207)
  have RF := (Row.new' (w.alloc (.cells (l10 x).toArray 205)) #[.slice (some ⟨bc, oc, none⟩) c.length cc, .slice (some ⟨bu, ou, none⟩) u.length cu, .slice pk k.length ck, .int .i32 E] 67 (g := w.heap.size + 1) (by simp)).alloc (.cells #[.int .u32 0, .int .u16 0, .int .u16 0, .int .i64 0] 207)
  have RR := Row.new' ((w.alloc (.cells (l10 x).toArray 205)).alloc (.cells #[.slice (some ⟨bc, oc, none⟩) c.length cc, .slice (some ⟨bu, ou, none⟩) u.length cu, .slice pk k.length ck, .int .i32 E] 67)) #[.int .u32 0, .int .u16 0, .int .u16 0, .int .i64 0] 207 (g := w.heap.size + 1 + 1) (by simp)
  unfold l10 at *
  have HX := Lib.hid hx
  have HM := Lib.hid (And.intro m1 (And.intro m2 m3))
  have HLT := Lib.hid (And.intro hra2 (And.intro hre2 (And.intro hrc2 (And.intro hcl hul))))
  clear hF hEc hEu hcc huu hra hre hrc hra2 hre2 hrc2 hcd hue huc hue2 huc2 hub hline m1 m2 m3 hx hc hu hcl hul hl1
  go_enter Tryz.func129, Tryz.ntmps129
  go_wp2_with fail
  change Row (((w.alloc (.cells #[.int .u8 (x.acc : Int), .int .u8 (x.ent : Int), .int .u8 (x.cnt : Int), .int .i64 x.amt] 205)).alloc _).alloc _) _ _ _ at RL
  generalize ((w.alloc (.cells #[.int .u8 (x.acc : Int), .int .u8 (x.ent : Int), .int .u8 (x.cnt : Int), .int .i64 x.amt] 205)).alloc (.cells #[.slice (some ⟨bc, oc, none⟩) c.length cc, .slice (some ⟨bu, ou, none⟩) u.length cu, .slice pk k.length ck, .int .i32 E] 67)).alloc (.cells #[.int .u32 0, .int .u16 0, .int .u16 0, .int .i64 0] 207) = w0 at *
  obtain ⟨gl, hgl⟩ : ∃ g, g = w.heap.size := ⟨_, rfl⟩
  obtain ⟨gf, hgf⟩ : ∃ g, g = w.heap.size + 1 := ⟨_, rfl⟩
  obtain ⟨gr, hgr⟩ : ∃ g, g = w.heap.size + 1 + 1 := ⟨_, rfl⟩
  rw [← hgr] at RR ⊢
  rw [← hgf] at RF ⊢
  rw [← hgl] at RL ⊢
  have HRL := Lib.hid RL
  have HRF := Lib.hid RF
  have HRR := Lib.hid RR
  have HBX := Lib.hid BX
  have HCA := Lib.hid (And.intro (cell_then ca BX) (cell_then ce BX))
  have HCK := Lib.hid (cell_then ck2 BX)
  have HGR := Lib.hid (show w.heap.size ≤ gr by omega)
  clear RL RF RR BX ca ce ck2 hgl hgf hgr hB
  have q1 : IntKind.i64.wrap (x.acc : Int) = (x.acc : Int) := by have := HX.out.1; rw [IntKind.wrap_i64]; omega
  have q2 : IntKind.i64.wrap (x.ent : Int) = (x.ent : Int) := by have := HX.out.2.1; rw [IntKind.wrap_i64]; omega
  have q3 : ¬ c = [] := fun e => by have := HLT.out.1; rw [e] at this; simp at this
  have q4 : ¬ u = [] := fun e => by have := HLT.out.2.1; rw [e] at this; simp at this
  have k1 : (0 : Int) ≤ (ra : Int) := by omega
  have k2 : (ra : Int) < (c.length : Int) := by have := HLT.out; omega
  have k3 : (0 : Int) ≤ (re : Int) := by omega
  have k4 : (re : Int) < (u.length : Int) := by have := HLT.out; omega
  have k5 : ((c.length : Int) == 0) = false := beq_eq_false_iff_ne.2 (by omega)
  have k6 : ((u.length : Int) == 0) = false := beq_eq_false_iff_ne.2 (by omega)
  have m1 := HM.out.1
  have m2 := HM.out.2.1
  refine region_made (n := 28) 27 20 (by kernel_rfl) (fun w' => Below w0.heap.size w0 w') (fun i w' v => if i = 26 then (∃ g, v = .pointer (some ⟨g, 0, none⟩) ∧ w0.heap.size ≤ g ∧ Row w' g #[.int .u32 0, .int .u16 0, .int .u16 0, .int .i64 0] 207) else v = (#[.pointer (some ⟨gf, 0, none⟩), .slice (some ⟨bc, oc, none⟩) c.length cc, .pointer (some ⟨gl, 0, none⟩), .int .u8 (x.acc : Int), .int .i64 (x.acc : Int), .pointer (some ⟨gf, 0, none⟩), .slice (some ⟨bc, oc, none⟩) c.length cc, .int .i64 (c.length : Int), .int .i64 (ra : Int), .pointer (some ⟨bc, oc + ra * 4, none⟩), .pointer (some ⟨bc, oc + ra * 4, none⟩), .int .u32 (cd : Int), .pointer (some ⟨gf, 1, none⟩), .slice (some ⟨bu, ou, none⟩) u.length cu, .pointer (some ⟨gl, 1, none⟩), .int .u8 (x.ent : Int), .int .i64 (x.ent : Int), .pointer (some ⟨gf, 1, none⟩), .slice (some ⟨bu, ou, none⟩) u.length cu, .int .i64 (u.length : Int), .int .i64 (re : Int), .pointer (some ⟨bu, ou + re, none⟩), .int .u16 (ue : Int), .pointer (some ⟨gl, 3, none⟩), .int .i64 x.amt, .agg #[.int .u32 (cd : Int), .int .u16 (ue : Int), .int .u16 0, .int .i64 x.amt], undef] : Array Value).getD i undef)
    (fun c v w' => ∃ g, c 26 = .pointer (some ⟨g, 0, none⟩) ∧ w0.heap.size ≤ g ∧ Row w' g #[.int .u32 (cd : Int), .int .u16 (ue : Int), .int .u16 0, .int .i64 x.amt] 207 ∧ Below w0.heap.size w0 w') (by kernel_rfl) (by kernel_rfl) (by kernel_rfl) (below_dr (Below.refl _ _)) rfl (fun _ _ a b => below_then a b) (fun i w1 w2 v hb h => by
      by_cases c : i = 26
      · rw [if_pos c] at h ⊢; obtain ⟨g, h1, h2, h3⟩ := h; exact ⟨g, h1, h2, h3.below hb⟩
      · rw [if_neg c] at h ⊢; exact h) ?_
  intro F Fz hF hFz
  simp only [fill, updV, dstAt] at hF hFz
  simp [Act.put] at hF hFz
  obtain rfl : F = fun cz => _ := funext fun cz => (hF cz).symm
  obtain rfl : Fz = fun cz v => _ := funext fun cz => funext fun v => (hFz cz v).symm
  clear hF hFz
  refine ⟨?_, ?_, ?_⟩
  · intro i op ho n1 cz wx S hG
    have RF := HRF.out.below S
    have RL := HRL.out.below S
    have d0 : wx.cell? ⟨gf, 0, none⟩ = some (.slice (some ⟨bc, oc, none⟩) c.length cc) := RF.cell 0
    have d1 : wx.cell? ⟨gf, 1, none⟩ = some (.slice (some ⟨bu, ou, none⟩) u.length cu) := RF.cell 1
    have l0 : wx.cell? ⟨gl, 0, none⟩ = some (.int .u8 (x.acc : Int)) := RL.cell 0
    have l1 : wx.cell? ⟨gl, 1, none⟩ = some (.int .u8 (x.ent : Int)) := RL.cell 1
    have l3 : wx.cell? ⟨gl, 3, none⟩ = some (.int .i64 x.amt) := RL.cell 3
    have e0 : wx.cell? ⟨bc, oc + ra * 4, none⟩ = some (.int .u32 (cd : Int)) := cell_then HCA.out.1 S
    have e1 : wx.cell? ⟨bu, ou + re, none⟩ = some (.int .u16 (ue : Int)) := cell_then HCA.out.2 S
    rcases i with _ | _ | _ | _ | _ | _ | _ | _ | _ | _ | _ | _ | _ | _ | _ | _ | _ | _ | _ | _ | _ | _ | _ | _ | _ | _ | _ | _ | i
    all_goals (first | (exact absurd rfl n1) | (simp at ho; done) | (obtain rfl := Option.some.inj ho))
    · exact yx_val (.pointer (some ⟨gf, 0, none⟩)) rfl (by go_simp) ⟨Below.refl _ _, rfl⟩
    · have g0 : cz 0 = .pointer (some ⟨gf, 0, none⟩) := hG 0 rfl (by omega)
      exact yx_val (.slice (some ⟨bc, oc, none⟩) c.length cc) rfl (by simp only [g0]; go_simp) ⟨Below.refl _ _, rfl⟩
    · exact yx_val (.pointer (some ⟨gl, 0, none⟩)) rfl (by go_simp) ⟨Below.refl _ _, rfl⟩
    · have g2 : cz 2 = .pointer (some ⟨gl, 0, none⟩) := hG 2 rfl (by omega)
      exact yx_val (.int .u8 (x.acc : Int)) rfl (by simp only [g2]; go_simp) ⟨Below.refl _ _, rfl⟩
    · have g3 : cz 3 = .int .u8 (x.acc : Int) := hG 3 rfl (by omega)
      exact yx_val (.int .i64 (x.acc : Int)) rfl (by simp only [g3]; go_simp) ⟨Below.refl _ _, rfl⟩
    · exact yx_val (.pointer (some ⟨gf, 0, none⟩)) rfl (by go_simp) ⟨Below.refl _ _, rfl⟩
    · have g5 : cz 5 = .pointer (some ⟨gf, 0, none⟩) := hG 5 rfl (by omega)
      exact yx_val (.slice (some ⟨bc, oc, none⟩) c.length cc) rfl (by simp only [g5]; go_simp) ⟨Below.refl _ _, rfl⟩
    · have g6 : cz 6 = .slice (some ⟨bc, oc, none⟩) c.length cc := hG 6 rfl (by omega)
      exact yx_val (.int .i64 (c.length : Int)) rfl (by simp only [g6]; go_simp) ⟨Below.refl _ _, rfl⟩
    · have g4 : cz 4 = .int .i64 (x.acc : Int) := hG 4 rfl (by omega)
      have g7 : cz 7 = .int .i64 (c.length : Int) := hG 7 rfl (by omega)
      exact yx_val (.int .i64 (ra : Int)) rfl (by simp only [g4, g7]; go_simp) ⟨Below.refl _ _, rfl⟩
    · have g1 : cz 1 = .slice (some ⟨bc, oc, none⟩) c.length cc := hG 1 rfl (by omega)
      have g8 : cz 8 = .int .i64 (ra : Int) := hG 8 rfl (by omega)
      exact yx_val (.pointer (some ⟨bc, oc + ra * 4, none⟩)) rfl (by simp only [g1, g8]; go_simp) ⟨Below.refl _ _, rfl⟩
    · have g9 : cz 9 = .pointer (some ⟨bc, oc + ra * 4, none⟩) := hG 9 rfl (by omega)
      exact yx_val (.pointer (some ⟨bc, oc + ra * 4, none⟩)) rfl (by simp only [g9]; go_simp) ⟨Below.refl _ _, rfl⟩
    · have g10 : cz 10 = .pointer (some ⟨bc, oc + ra * 4, none⟩) := hG 10 rfl (by omega)
      exact yx_val (.int .u32 (cd : Int)) rfl (by simp only [g10]; go_simp) ⟨Below.refl _ _, rfl⟩
    · exact yx_val (.pointer (some ⟨gf, 1, none⟩)) rfl (by go_simp) ⟨Below.refl _ _, rfl⟩
    · have g12 : cz 12 = .pointer (some ⟨gf, 1, none⟩) := hG 12 rfl (by omega)
      exact yx_val (.slice (some ⟨bu, ou, none⟩) u.length cu) rfl (by simp only [g12]; go_simp) ⟨Below.refl _ _, rfl⟩
    · exact yx_val (.pointer (some ⟨gl, 1, none⟩)) rfl (by go_simp) ⟨Below.refl _ _, rfl⟩
    · have g14 : cz 14 = .pointer (some ⟨gl, 1, none⟩) := hG 14 rfl (by omega)
      exact yx_val (.int .u8 (x.ent : Int)) rfl (by simp only [g14]; go_simp) ⟨Below.refl _ _, rfl⟩
    · have g15 : cz 15 = .int .u8 (x.ent : Int) := hG 15 rfl (by omega)
      exact yx_val (.int .i64 (x.ent : Int)) rfl (by simp only [g15]; go_simp) ⟨Below.refl _ _, rfl⟩
    · exact yx_val (.pointer (some ⟨gf, 1, none⟩)) rfl (by go_simp) ⟨Below.refl _ _, rfl⟩
    · have g17 : cz 17 = .pointer (some ⟨gf, 1, none⟩) := hG 17 rfl (by omega)
      exact yx_val (.slice (some ⟨bu, ou, none⟩) u.length cu) rfl (by simp only [g17]; go_simp) ⟨Below.refl _ _, rfl⟩
    · have g18 : cz 18 = .slice (some ⟨bu, ou, none⟩) u.length cu := hG 18 rfl (by omega)
      exact yx_val (.int .i64 (u.length : Int)) rfl (by simp only [g18]; go_simp) ⟨Below.refl _ _, rfl⟩
    · have g16 : cz 16 = .int .i64 (x.ent : Int) := hG 16 rfl (by omega)
      have g19 : cz 19 = .int .i64 (u.length : Int) := hG 19 rfl (by omega)
      exact yx_val (.int .i64 (re : Int)) rfl (by simp only [g16, g19]; go_simp) ⟨Below.refl _ _, rfl⟩
    · have g13 : cz 13 = .slice (some ⟨bu, ou, none⟩) u.length cu := hG 13 rfl (by omega)
      have g20 : cz 20 = .int .i64 (re : Int) := hG 20 rfl (by omega)
      exact yx_val (.pointer (some ⟨bu, ou + re, none⟩)) rfl (by simp only [g13, g20]; go_simp) ⟨Below.refl _ _, rfl⟩
    · have g21 : cz 21 = .pointer (some ⟨bu, ou + re, none⟩) := hG 21 rfl (by omega)
      exact yx_val (.int .u16 (ue : Int)) rfl (by simp only [g21]; go_simp) ⟨Below.refl _ _, rfl⟩
    · exact yx_val (.pointer (some ⟨gl, 3, none⟩)) rfl (by go_simp) ⟨Below.refl _ _, rfl⟩
    · have g23 : cz 23 = .pointer (some ⟨gl, 3, none⟩) := hG 23 rfl (by omega)
      exact yx_val (.int .i64 x.amt) rfl (by simp only [g23]; go_simp) ⟨Below.refl _ _, rfl⟩
    · have g11 : cz 11 = .int .u32 (cd : Int) := hG 11 rfl (by omega)
      have g22 : cz 22 = .int .u16 (ue : Int) := hG 22 rfl (by omega)
      have g24 : cz 24 = .int .i64 x.amt := hG 24 rfl (by omega)
      exact yx_val (.agg #[.int .u32 (cd : Int), .int .u16 (ue : Int), .int .u16 0, .int .i64 x.amt]) rfl (by simp only [g11, g22, g24]; go_simp) ⟨Below.refl _ _, rfl⟩
    · exact yx_valw _ (wx.alloc (.cells #[.int .u32 0, .int .u16 0, .int .u16 0, .int .i64 0] 207)) rfl (by go_simp) ⟨below_alloc (Below.refl _ wx) _, wx.heap.size, rfl, S.size, Row.new wx _ _⟩
  · intro op ho cz wx S hG
    obtain rfl := Option.some.inj ho
    obtain ⟨g, g26, hg, RG⟩ := hG 26 (by omega) (by omega)
    have g25 : cz 25 = .agg #[.int .u32 (cd : Int), .int .u16 (ue : Int), .int .u16 0, .int .i64 x.amt] := hG 25 (by omega) (by omega)
    exact yx_of (S := fun w' => Row w' g #[.int .u32 (cd : Int), .int .u16 (ue : Int), .int .u16 0, .int .i64 x.amt] 207 ∧ Stored wx g w') (yv_store rfl 207 _ _ rfl g _ g26 g25 RG (by kernel_rfl) rfl (by simp [Value.oneCell']) (fun w1 R1 S1 => ⟨R1, S1⟩)) (fun w' ⟨R1, S1⟩ => ⟨g, g26, hg, R1, S1.below S hg⟩)
  · rintro c9 v9 w2 ⟨g, g26, hg, RG, SX⟩
    simp only [g26]
    have HRG := Lib.hid RG
    have HRL2 := Lib.hid (HRL.out.below SX)
    have HRF2 := Lib.hid (HRF.out.below SX)
    have HRR2 := Lib.hid (HRR.out.below SX)
    have HCC := Lib.hid (cell_then HCK.out SX)
    have HBG := Lib.hid (HBX.out.trans (SX.mono HBX.out.size))
    have HGG := Lib.hid (show w.heap.size ≤ g by have := HBX.out.size; omega)
    have HNE := Lib.hid (show gr ≠ g by have := HRR.out.lt; omega)
    clear g26 hg RG SX q1 q2 k1 k2 k3 k4 k5 k6 m1 m2
    have b2 : w2.cell? ⟨gl, 2, none⟩ = some (.int .u8 (x.cnt : Int)) := HRL2.out.cell 2
    have hm2 : (x.cnt : Int).tmod 2 = ((x.cnt % 2 : Nat) : Int) := by rw [Int.tmod_eq_emod_of_nonneg (by omega)]; rfl
    have hw2 : IntKind.u8.wrap ((x.cnt % 2 : Nat) : Int) = ((x.cnt % 2 : Nat) : Int) := by rw [IntKind.wrap_u8]; omega
    obtain ⟨par, hpar⟩ : ∃ p, p = x.cnt % 2 := ⟨_, rfl⟩
    rw [← hpar] at hm2 hw2
    have HPAR := Lib.hid hpar
    clear hpar
    by_cases hp1 : par = 1
    · have e9 : ((par : Int) == 1) = true := by rw [hp1]; rfl
      have HP1 := Lib.hid hp1
      obtain ⟨hc, hhc⟩ : ∃ z, z = x.cnt / 2 := ⟨_, rfl⟩
      have q5 : (x.cnt : Int).tdiv 2 = (hc : Int) := by rw [Int.tdiv_eq_ediv_of_nonneg (by omega), hhc]; rfl
      have q6 : IntKind.u8.wrap (hc : Int) = (hc : Int) := by have := HX.out.2.2.1; rw [IntKind.wrap_u8]; omega
      have q7 : IntKind.i64.wrap (hc : Int) = (hc : Int) := by have := HX.out.2.2.1; rw [IntKind.wrap_i64]; omega
      have q8 : (hc : Int).tmod (u.length : Int) = (rc : Int) := by rw [hhc]; exact HM.out.2.2
      have j1 : (0 : Int) ≤ (rc : Int) := by omega
      have j2 : (rc : Int) < (u.length : Int) := by have := HLT.out; omega
      clear hp1 hhc q3
      go_wp2_with fail
      clear b2
      refine region_made (n := 14) 13 20 (by kernel_rfl) (fun w' => Below w2.heap.size w2 w') (fun i w' v => v = (#[.pointer (some ⟨gf, 1, none⟩), .slice (some ⟨bu, ou, none⟩) u.length cu, .pointer (some ⟨gl, 2, none⟩), .int .u8 (x.cnt : Int), .int .u8 (hc : Int), .int .i64 (hc : Int), .pointer (some ⟨gf, 1, none⟩), .slice (some ⟨bu, ou, none⟩) u.length cu, .int .i64 (u.length : Int), .int .i64 (rc : Int), .pointer (some ⟨bu, ou + rc, none⟩), .int .u16 (uc : Int), .pointer (some ⟨g, 2, none⟩)] : Array Value).getD i undef)
        (fun c v w' => Row w' g #[.int .u32 (cd : Int), .int .u16 (ue : Int), .int .u16 (uc : Int), .int .i64 x.amt] 207 ∧ Row w' gr #[.int .u32 0, .int .u16 0, .int .u16 0, .int .i64 0] 207 ∧ Below w.heap.size w w') (by kernel_rfl) (by kernel_rfl) (by kernel_rfl) (below_dr (Below.refl _ _)) rfl (fun _ _ a b => below_then a b) (fun i w1 w2 v hb h => h) ?_
      intro F Fz hF hFz
      simp only [fill, updV, dstAt] at hF hFz
      simp [Act.put] at hF hFz
      obtain rfl : F = fun cz => _ := funext fun cz => (hF cz).symm
      obtain rfl : Fz = fun cz v => _ := funext fun cz => funext fun v => (hFz cz v).symm
      clear hF hFz
      refine ⟨?_, ?_, ?_⟩
      · intro i op ho n1 cz wx S hG
        have RF := HRF2.out.below S
        have RL := HRL2.out.below S
        have d1 : wx.cell? ⟨gf, 1, none⟩ = some (.slice (some ⟨bu, ou, none⟩) u.length cu) := RF.cell 1
        have l2 : wx.cell? ⟨gl, 2, none⟩ = some (.int .u8 (x.cnt : Int)) := RL.cell 2
        have e1 : wx.cell? ⟨bu, ou + rc, none⟩ = some (.int .u16 (uc : Int)) := cell_then HCC.out S
        rcases i with _ | _ | _ | _ | _ | _ | _ | _ | _ | _ | _ | _ | _ | _ | i
        all_goals (first | (exact absurd rfl n1) | (simp at ho; done) | (obtain rfl := Option.some.inj ho))
        · exact yx_val (.pointer (some ⟨gf, 1, none⟩)) rfl (by go_simp) ⟨Below.refl _ _, rfl⟩
        · have g0 : cz 0 = .pointer (some ⟨gf, 1, none⟩) := hG 0 rfl (by omega)
          exact yx_val (.slice (some ⟨bu, ou, none⟩) u.length cu) rfl (by simp only [g0]; go_simp) ⟨Below.refl _ _, rfl⟩
        · exact yx_val (.pointer (some ⟨gl, 2, none⟩)) rfl (by go_simp) ⟨Below.refl _ _, rfl⟩
        · have g2 : cz 2 = .pointer (some ⟨gl, 2, none⟩) := hG 2 rfl (by omega)
          exact yx_val (.int .u8 (x.cnt : Int)) rfl (by simp only [g2]; go_simp) ⟨Below.refl _ _, rfl⟩
        · have g3 : cz 3 = .int .u8 (x.cnt : Int) := hG 3 rfl (by omega)
          exact yx_val (.int .u8 (hc : Int)) rfl (by simp only [g3]; go_simp) ⟨Below.refl _ _, rfl⟩
        · have g4 : cz 4 = .int .u8 (hc : Int) := hG 4 rfl (by omega)
          exact yx_val (.int .i64 (hc : Int)) rfl (by simp only [g4]; go_simp) ⟨Below.refl _ _, rfl⟩
        · exact yx_val (.pointer (some ⟨gf, 1, none⟩)) rfl (by go_simp) ⟨Below.refl _ _, rfl⟩
        · have g6 : cz 6 = .pointer (some ⟨gf, 1, none⟩) := hG 6 rfl (by omega)
          exact yx_val (.slice (some ⟨bu, ou, none⟩) u.length cu) rfl (by simp only [g6]; go_simp) ⟨Below.refl _ _, rfl⟩
        · have g7 : cz 7 = .slice (some ⟨bu, ou, none⟩) u.length cu := hG 7 rfl (by omega)
          exact yx_val (.int .i64 (u.length : Int)) rfl (by simp only [g7]; go_simp) ⟨Below.refl _ _, rfl⟩
        · have g5 : cz 5 = .int .i64 (hc : Int) := hG 5 rfl (by omega)
          have g8 : cz 8 = .int .i64 (u.length : Int) := hG 8 rfl (by omega)
          exact yx_val (.int .i64 (rc : Int)) rfl (by simp only [g5, g8]; go_simp) ⟨Below.refl _ _, rfl⟩
        · have g1 : cz 1 = .slice (some ⟨bu, ou, none⟩) u.length cu := hG 1 rfl (by omega)
          have g9 : cz 9 = .int .i64 (rc : Int) := hG 9 rfl (by omega)
          exact yx_val (.pointer (some ⟨bu, ou + rc, none⟩)) rfl (by simp only [g1, g9]; go_simp) ⟨Below.refl _ _, rfl⟩
        · have g10 : cz 10 = .pointer (some ⟨bu, ou + rc, none⟩) := hG 10 rfl (by omega)
          exact yx_val (.int .u16 (uc : Int)) rfl (by simp only [g10]; go_simp) ⟨Below.refl _ _, rfl⟩
        · exact yx_val (.pointer (some ⟨g, 2, none⟩)) rfl (by go_simp) ⟨Below.refl _ _, rfl⟩
      · intro op ho cz wx S hG
        obtain rfl := Option.some.inj ho
        have g11 : cz 11 = .int .u16 (uc : Int) := hG 11 (by omega) (by omega)
        have g12 : cz 12 = .pointer (some ⟨g, 2, none⟩) := hG 12 (by omega) (by omega)
        have RG := HRG.out.below S
        have z2 : wx.cell? ⟨g, 2, none⟩ = some (.int .u16 0) := RG.cell 2
        have fz : wx.frozen? ⟨g, 2, none⟩ = false := RG.frozen 2
        exact yx_skip (wx.setCell ⟨g, 2, none⟩ (.int .u16 (uc : Int))) rfl (by simp only [g11, g12]; go_simp) ⟨RG.set 2 _, (HRR2.out.below S).other ⟨g, 2, none⟩ HNE.out _, (stored_setCell _ _ _ _).below (below_then HBG.out S) HGG.out⟩
      · rintro c8 v8 w3 ⟨RG3, RY3, BW3⟩
        have HG3 := Lib.hid RG3
        have HY3 := Lib.hid RY3
        have HB3 := Lib.hid BW3
        show Exit.then _ _ Exit.normal _ _
        go_wp2_with (first | (refine ev_load (N := 49) rfl rfl 207 _ rfl g rfl HG3.out _ Tryz.underlying207 rfl (by kernel_rfl) ?_) | (refine ev_store rfl 207 _ _ rfl gr #[.int .u32 (cd : Int), .int .u16 (ue : Int), .int .u16 (uc : Int), .int .i64 x.amt] rfl rfl HY3.out (by kernel_rfl) rfl (by simp [Value.oneCell']) rfl ?_; intro w9 RZ S9))
        exact bodyPost_ret (v := .agg #[.int .u32 (cd : Int), .int .u16 (ue : Int), .int .u16 (uc : Int), .int .i64 x.amt]) (res_row rfl _ _ RZ rfl Tryz.underlying207 rfl (by kernel_rfl)) rfl ⟨by rw [HCN.out, if_pos (by rw [← HPAR.out]; exact HP1.out)]; rfl, S9.below HB3.out HGR.out⟩
    · have e9 : ((par : Int) == 1) = false := beq_eq_false_iff_ne.2 (by omega)
      have HP1 := Lib.hid hp1
      clear hp1 q3 q4
      go_wp2_with (first | (refine ev_load (N := 49) rfl rfl 207 _ rfl g rfl HRG.out _ Tryz.underlying207 rfl (by kernel_rfl) ?_) | (refine ev_store rfl 207 _ _ rfl gr #[.int .u32 (cd : Int), .int .u16 (ue : Int), .int .u16 0, .int .i64 x.amt] rfl rfl HRR2.out (by kernel_rfl) rfl (by simp [Value.oneCell']) rfl ?_; intro w9 RZ S9))
      exact bodyPost_ret (v := .agg #[.int .u32 (cd : Int), .int .u16 (ue : Int), .int .u16 0, .int .i64 x.amt]) (res_row rfl _ _ RZ rfl Tryz.underlying207 rfl (by kernel_rfl)) rfl ⟨by rw [HCN.out, if_neg (by rw [← HPAR.out]; exact HP1.out)]; rfl, S9.below HBG.out HGR.out⟩
end Go.Proofs.YtbhjkddjgikaiaaGreatDoor
