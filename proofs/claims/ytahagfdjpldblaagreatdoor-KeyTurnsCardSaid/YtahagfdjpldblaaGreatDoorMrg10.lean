/-
  Own texts, several in one (Key, Law5b, Map).
-/
import Derived.Test.YtahagfdjpldblaaGreatDoorMrg9
import Derived.Deep.QuietTactic
import Derived.BigQuiet
import Derived.Laws.Bits64b
import Derived.Test.YtahagfdjpldblaaGreatDoorMrg1
import Derived.Maps.Own
import Derived.Maps.OwnOps
import Derived.Maps.RangeRun
import Derived.WideKeyEntry
namespace Go.Proofs.YtahagfdjpldblaaGreatDoor
open Go.RowKit
set_option linter.unusedVariables false
set_option linter.unusedSimpArgs false

theorem or_add (a b i : Nat) (h : b < 2 ^ i) : (a * 2 ^ i) ||| b = a * 2 ^ i + b := by
  rw [← Nat.shiftLeft_eq]
  exact (Nat.shiftLeft_add_eq_or_of_lt h a).symm
theorem pack_bits (a e p : Nat) (ha : a < 4294967296) (he : e < 65536) (hp : p < 65536) :
    bits BinOp.or IntKind.u64 (bits BinOp.or IntKind.u64 ((a : Int) * 4294967296) ((e : Int) * 65536)) (p : Int) = ((a * 4294967296 + e * 65536 + p : Nat) : Int) := by
  have e1 : bits BinOp.or IntKind.u64 ((a : Int) * 4294967296) ((e : Int) * 65536) = ((a * 4294967296 + e * 65536 : Nat) : Int) := by
    have h := bits_or_u64_nat (a * 4294967296) (e * 65536) (by omega) (by omega)
    rw [show ((a * 4294967296 : Nat) : Int) = (a : Int) * 4294967296 by omega, show ((e * 65536 : Nat) : Int) = (e : Int) * 65536 by omega] at h
    rw [h, or_add a (e * 65536) 32 (by omega)]
  rw [e1, bits_or_u64_nat _ p (by omega) (by omega)]
  rw [show a * 4294967296 + e * 65536 = (a * 65536 + e) * 2 ^ 16 by omega, or_add _ p 16 (by omega)]
theorem pack_any (a e p : Nat) (ha : a < 4294967296) (he : e < 65536) (hp : p < 65536) (w : World) :
    Calls Tryz.prog 22 #[.agg #[.int .u32 (a : Int), .int .u16 (e : Int), .int .u16 (p : Int)]] w fun r w' => r = .returned (.int .u64 ((a * 4294967296 + e * 65536 + p : Nat) : Int)) ∧ Below w.heap.size w w' := by
  go_enter Tryz.func22, Tryz.ntmps22
  go_wp2
  go_ret
  exact ⟨ret_int (pack_bits a e p ha he hp), (Below.refl _ _).alloc (Nat.le_refl _) _⟩
theorem awake5 (w : World) (hM : Glb5 w) : Calls Tryz.prog 6 #[] w fun e w' => e = .returned (.bool true) ∧ Below w.heap.size w w' := by
  have P := Lib.hid (pack_any 1 2 3 (by omega) (by omega) (by omega))
  rw [show ((1 * 4294967296 + 2 * 65536 + 3 : Nat) : Int) = 4295098371 from rfl] at P
  go_enter Tryz.func6, Tryz.ntmps6
  go_wp2_with fail
  refine (P.out _).mono ?_
  rintro _ w1 ⟨rfl, hb1⟩
  go_wp2_with fail
  refine (awake4 _ (hM.below hb1)).mono ?_
  rintro _ w2 ⟨rfl, hb2⟩
  go_wp2
  go_ret
  exact ⟨rfl, below_then hb1 hb2⟩
end Go.Proofs.YtahagfdjpldblaaGreatDoor

namespace Go.Proofs.YtahagfdjpldblaaGreatDoor
open Go.RowKit
set_option linter.unusedVariables false
set_option linter.unusedSimpArgs false

namespace Ky
/-- a key: account, entity, period -/
structure K where
  a : Nat
  e : Nat
  p : Nat
def K.ok (k : K) : Prop := k.a < 4294967296 ∧ k.e < 65536 ∧ k.p < 65536
def K.num (k : K) : Nat := k.a * 4294967296 + k.e * 65536 + k.p
def K.val (k : K) : Value := .agg #[.int .u32 (k.a : Int), .int .u16 (k.e : Int), .int .u16 (k.p : Int)]
def cmp (x y : Nat) : Int := if x < y then -1 else if y < x then 1 else 0
/-- the packed numbers' order is the keys' -/
theorem less_num (x y : K) (hx : x.ok) (hy : y.ok) : x.num < y.num ↔ (x.a < y.a ∨ x.a = y.a ∧ (x.e < y.e ∨ x.e = y.e ∧ x.p < y.p)) := by
  unfold K.ok at *
  unfold K.num
  omega
end Ky
open Ky
theorem isNaN_u64 (x : Int) (w : World) : Calls Tryz.prog 47 #[.int .u64 x] w fun e w' => e = .returned (.bool false) ∧ w' = w := by
  go_enter Tryz.func47, Tryz.ntmps47
  go_wp2
  go_ret
  exact ⟨rfl, rfl⟩
theorem cmp_u64 (x y : Nat) (w : World) : Calls Tryz.prog 36 #[.int .u64 (x : Int), .int .u64 (y : Int)] w fun e w' => e = .returned (.int .i64 (Ky.cmp x y)) ∧ w' = w := by
  unfold Ky.cmp
  rcases (show x < y ∨ y < x ∨ x = y by omega) with h | h | h
  · have h1 : (x : Int) < (y : Int) := by omega
    rw [if_pos h]
    go_enter Tryz.func36, Tryz.ntmps36
    go_wp2_with fail
    refine (isNaN_u64 _ _).mono ?_
    rintro _ w1 ⟨rfl, rfl⟩
    go_wp2_with fail
    refine (isNaN_u64 _ _).mono ?_
    rintro _ w1 ⟨rfl, rfl⟩
    go_wp2
    go_ret
    exact ⟨rfl, rfl⟩
  · have h1 : ((x : Int) < (y : Int)) = False := by simp; omega
    have h2 : (y : Int) < (x : Int) := by omega
    rw [if_neg (by omega), if_pos h]
    go_enter Tryz.func36, Tryz.ntmps36
    go_wp2_with fail
    refine (isNaN_u64 _ _).mono ?_
    rintro _ w1 ⟨rfl, rfl⟩
    go_wp2_with fail
    refine (isNaN_u64 _ _).mono ?_
    rintro _ w1 ⟨rfl, rfl⟩
    go_wp2
    go_ret
    exact ⟨rfl, rfl⟩
  · subst h
    rw [if_neg (by omega), if_neg (by omega)]
    go_enter Tryz.func36, Tryz.ntmps36
    go_wp2_with fail
    refine (isNaN_u64 _ _).mono ?_
    rintro _ w1 ⟨rfl, rfl⟩
    go_wp2_with fail
    refine (isNaN_u64 _ _).mono ?_
    rintro _ w1 ⟨rfl, rfl⟩
    go_wp2
    go_ret
    exact ⟨rfl, rfl⟩
theorem pack_key (k : K) (hk : k.ok) (w : World) : Calls Tryz.prog 22 #[k.val] w fun r w' => r = .returned (.int .u64 ((k.num : Nat) : Int)) ∧ Below w.heap.size w w' := pack_any k.a k.e k.p hk.1 hk.2.1 hk.2.2 w
set_option maxHeartbeats 1000000 in
theorem compare_any (x y : K) (hx : x.ok) (hy : y.ok) (w : World) : Calls Tryz.prog 27 #[x.val, y.val] w fun r w' => r = .returned (.int .i64 (Ky.cmp x.num y.num)) ∧ Below w.heap.size w w' := by
  have PX := Lib.hid (pack_key x hx)
  have PY := Lib.hid (pack_key y hy)
  have CM := Lib.hid (cmp_u64 x.num y.num)
  unfold K.val at *
  generalize Ky.cmp x.num y.num = c at *
  generalize ((x.num : Nat) : Int) = nx at *
  generalize ((y.num : Nat) : Int) = ny at *
  go_enter Tryz.func27, Tryz.ntmps27
  go_wp2_with fail
  have RA := (Row.new w #[.int .u32 (x.a : Int), .int .u16 (x.e : Int), .int .u16 (x.p : Int)] 29).alloc (.cells #[.int .u32 (y.a : Int), .int .u16 (y.e : Int), .int .u16 (y.p : Int)] 29)
  have RB := Row.new' (w.alloc (.cells #[.int .u32 (x.a : Int), .int .u16 (x.e : Int), .int .u16 (x.p : Int)] 29)) #[.int .u32 (y.a : Int), .int .u16 (y.e : Int), .int .u16 (y.p : Int)] 29 (g := w.heap.size + 1) (by simp)
  have hB := below_alloc (below_alloc (Below.refl _ w) (.cells #[.int .u32 (x.a : Int), .int .u16 (x.e : Int), .int .u16 (x.p : Int)] 29)) (.cells #[.int .u32 (y.a : Int), .int .u16 (y.e : Int), .int .u16 (y.p : Int)] 29)
  generalize (w.alloc (.cells #[.int .u32 (x.a : Int), .int .u16 (x.e : Int), .int .u16 (x.p : Int)] 29)).alloc (.cells #[.int .u32 (y.a : Int), .int .u16 (y.e : Int), .int .u16 (y.p : Int)] 29) = w2 at *
  obtain ⟨g, hg⟩ : ∃ g, g = w.heap.size := ⟨_, rfl⟩
  obtain ⟨g', hg'⟩ : ∃ g', g' = w.heap.size + 1 := ⟨_, rfl⟩
  rw [← hg] at RA
  rw [← hg'] at RB
  rw [← hg', ← hg]
  have a0 : w2.cell? ⟨g, 0, none⟩ = some (.int .u32 (x.a : Int)) := RA.cell 0
  have a1 : w2.cell? ⟨g, 1, none⟩ = some (.int .u16 (x.e : Int)) := RA.cell 1
  have a2 : w2.cell? ⟨g, 2, none⟩ = some (.int .u16 (x.p : Int)) := RA.cell 2
  have b0 : w2.cell? ⟨g', 0, none⟩ = some (.int .u32 (y.a : Int)) := RB.cell 0
  have b1 : w2.cell? ⟨g', 1, none⟩ = some (.int .u16 (y.e : Int)) := RB.cell 1
  have b2 : w2.cell? ⟨g', 2, none⟩ = some (.int .u16 (y.p : Int)) := RB.cell 2
  clear RA RB hg hg'
  go_region_held3 (fun w' => Below w.heap.size w w' ∧ w'.cell? ⟨g, 0, none⟩ = some (.int .u32 (x.a : Int)) ∧ w'.cell? ⟨g, 1, none⟩ = some (.int .u16 (x.e : Int)) ∧ w'.cell? ⟨g, 2, none⟩ = some (.int .u16 (x.p : Int)) ∧ w'.cell? ⟨g', 0, none⟩ = some (.int .u32 (y.a : Int)) ∧ w'.cell? ⟨g', 1, none⟩ = some (.int .u16 (y.e : Int)) ∧ w'.cell? ⟨g', 2, none⟩ = some (.int .u16 (y.p : Int))) (refine ⟨?_, ?_, ?_, ?_, ?_, ?_, ?_⟩ <;> first | assumption | exact below_dr hB | exact a0 | exact a1 | exact a2 | exact b0 | exact b1 | exact b2 | simp [go_sem, *]) (first | (go_at_call 22; rename_i hHeld _ _; ((with_reducible refine (PX.out _).mono ?_)); rintro e wx ⟨rfl, hb⟩; have HB := below_then hHeld.1 hb; have HC1 := cell_then hHeld.2.1 hb; have HC2 := cell_then hHeld.2.2.1 hb; have HC3 := cell_then hHeld.2.2.2.1 hb; have HC4 := cell_then hHeld.2.2.2.2.1 hb; have HC5 := cell_then hHeld.2.2.2.2.2.1 hb; have HC6 := cell_then hHeld.2.2.2.2.2.2 hb; clear hb hHeld) | (go_at_call 22; rename_i hHeld _ _; ((with_reducible refine (PY.out _).mono ?_)); rintro e wx ⟨rfl, hb⟩; have HB := below_then hHeld.1 hb; have HC1 := cell_then hHeld.2.1 hb; have HC2 := cell_then hHeld.2.2.1 hb; have HC3 := cell_then hHeld.2.2.2.1 hb; have HC4 := cell_then hHeld.2.2.2.2.1 hb; have HC5 := cell_then hHeld.2.2.2.2.2.1 hb; have HC6 := cell_then hHeld.2.2.2.2.2.2 hb; clear hb hHeld) | (go_at_call 36; rename_i hHeld _ _; ((with_reducible refine (CM.out _).mono ?_)); rintro e wx ⟨rfl, rfl⟩))
  rename_i hHeld
  have BB := hHeld.1
  clear hHeld
  go_wp2
  go_ret
  exact ⟨rfl, BB⟩
set_option maxHeartbeats 1000000 in
theorem less_any (x y : K) (hx : x.ok) (hy : y.ok) (w : World) : Calls Tryz.prog 13 #[x.val, y.val] w fun r w' => r = .returned (.bool (decide (x.num < y.num))) ∧ Below w.heap.size w w' := by
  have L := Lib.hid (less_num x y hx hy)
  unfold K.val
  have hB := below_alloc (below_alloc (Below.refl _ w) (.cells #[.int .u32 (x.a : Int), .int .u16 (x.e : Int), .int .u16 (x.p : Int)] 29)) (.cells #[.int .u32 (y.a : Int), .int .u16 (y.e : Int), .int .u16 (y.p : Int)] 29)
  rcases (show ¬ x.a = y.a ∨ (x.a = y.a ∧ ¬ x.e = y.e) ∨ (x.a = y.a ∧ x.e = y.e) by omega) with h | ⟨h, h2⟩ | ⟨h, h2⟩
  · have q1 : ((x.a : Int) != (y.a : Int)) = true := by rw [bne_iff_ne]; omega
    have R : decide (x.num < y.num) = decide ((x.a : Int) < (y.a : Int)) := by rw [decide_eq_decide, L.out]; omega
    rw [R]
    clear R L
    go_enter Tryz.func13, Tryz.ntmps13
    go_wp2
    go_ret
    exact ⟨ret_bool (by simp), hB⟩
  · have q1 : ((x.a : Int) != (y.a : Int)) = false := by rw [h]; simp
    have q2 : ((x.e : Int) != (y.e : Int)) = true := by rw [bne_iff_ne]; omega
    have R : decide (x.num < y.num) = decide ((x.e : Int) < (y.e : Int)) := by rw [decide_eq_decide, L.out]; omega
    rw [R]
    clear R L h
    go_enter Tryz.func13, Tryz.ntmps13
    go_wp2
    go_ret
    exact ⟨ret_bool (by simp), hB⟩
  · have q1 : ((x.a : Int) != (y.a : Int)) = false := by rw [h]; simp
    have q2 : ((x.e : Int) != (y.e : Int)) = false := by rw [h2]; simp
    have R : decide (x.num < y.num) = decide ((x.p : Int) < (y.p : Int)) := by rw [decide_eq_decide, L.out]; omega
    rw [R]
    clear R L h h2
    go_enter Tryz.func13, Tryz.ntmps13
    go_wp2
    go_ret
    exact ⟨ret_bool (by simp), hB⟩

end Go.Proofs.YtahagfdjpldblaaGreatDoor

namespace Go.Proofs.YtahagfdjpldblaaGreatDoor
open Go.RowKit
open Go.Maps (Keyed)
open Go.ChangeMaps (setBlock)
open Go.WideElems (Fit rd rg pl)
set_option linter.unusedVariables false
set_option linter.unusedSimpArgs false

/-- how an element reads, where it doesn't matter -/
def triv : Value → Option (DataW Unit × List MemPlace) := fun _ => some (.nil, [])
section
variable {P : Program} {k t e : TypeId} {w : World} {b : Nat} {es : Array MapEntry} {clock : Nat}
def getV {ν : Type} (vl : ν → Value) (z : Value) : Option ν → Value
  | some v => vl v
  | none => z
theorem setBlock_inj {o1 o2 : Obj} (hb : w.heap[b]? = some (.map es clock)) (h : setBlock w b o1 = setBlock w b o2) : o1 = o2 := by
  have h1 := congrArg (fun v : World => v.heap[b]?) h
  rw [ChangeMaps.heap_setBlock_same hb, ChangeMaps.heap_setBlock_same hb] at h1
  exact Option.some.inj h1
theorem store_raw (K : Keyed P k) (ht : P.underlying t = some (.map k e)) (hb : w.heap[b]? = some (.map es clock)) (F : Fit P k triv es clock) (hroom : es.size < maxLen)
    {key val : Value} {kl : Lit} (hkey : keyOf P k key = some kl) :
    ∃ es' clock', (Instr.mapUpdate t (.map (some b)) key val).run P w = .ok () (setBlock w b (.map es' clock')) ∧ Fit P k triv es' clock' ∧ es'.size ≤ es.size + 1 ∧
      (∀ x' ∈ es'.toList, (x' ∈ es.toList ∧ x'.key ≠ key) ∨ (x'.key = key ∧ x'.val = val)) ∧ (∀ x ∈ es.toList, x.key ≠ key → x ∈ es'.toList) ∧ ∃ x ∈ es'.toList, x.key = key ∧ x.val = val := by
  obtain ⟨es1, clock1, hrun1, F1, _, _, _, hwho⟩ := Maps.fit_store (R' := triv) (val := val) (yv := (.nil, [])) K ht hb F hroom (fun _ _ _ _ hz => hz) hkey rfl
  refine ⟨es1, clock1, hrun1, F1, ?_, hwho, ?_⟩
  all_goals
    rcases K.find w hkey es.toList F.keys with ⟨h1, h2⟩ | ⟨j, e0, h1, h2, h3⟩
  · have hrun2 : (Instr.mapUpdate t (.map (some b)) key val).run P w = .ok () (setBlock w b (.map (es.push ⟨key, val, clock⟩) (clock + 1))) := by
      simp [Instr.mapUpdate, run_underlying ht, MapKept.run_getObj_map hb, K.check w false hkey, h1, MapKept.run_setObj_map _ hb, Result.andThen, setBlock]
    rw [hrun1] at hrun2
    injection hrun2 with _ hrun2
    have h4 := setBlock_inj hb hrun2
    injection h4 with h4 _
    rw [h4]
    simp
  · have hj : es[j]? = some e0 := by simpa using h2
    have hrun2 : (Instr.mapUpdate t (.map (some b)) key val).run P w = .ok () (setBlock w b (.map (es.modify j (fun e' => { e' with key := key, val := val })) clock)) := by
      simp [Instr.mapUpdate, run_underlying ht, MapKept.run_getObj_map hb, K.check w false hkey, h1, hj, h3, K.stays w hkey, MapKept.run_setObj_map _ hb, Result.andThen, setBlock]
    rw [hrun1] at hrun2
    injection hrun2 with _ hrun2
    have h4 := setBlock_inj hb hrun2
    injection h4 with h4 _
    rw [h4]
    simp
  · have hrun2 : (Instr.mapUpdate t (.map (some b)) key val).run P w = .ok () (setBlock w b (.map (es.push ⟨key, val, clock⟩) (clock + 1))) := by
      simp [Instr.mapUpdate, run_underlying ht, MapKept.run_getObj_map hb, K.check w false hkey, h1, MapKept.run_setObj_map _ hb, Result.andThen, setBlock]
    rw [hrun1] at hrun2
    injection hrun2 with _ hrun2
    have h4 := setBlock_inj hb hrun2
    injection h4 with h4 _
    rw [h4]
    refine ⟨fun x hx _ => ?_, ⟨key, val, clock⟩, ?_, rfl, rfl⟩
    · simp only [Array.toList_push, List.mem_append]
      exact .inl hx
    · simp
  · have hj : es[j]? = some e0 := by simpa using h2
    have hrun2 : (Instr.mapUpdate t (.map (some b)) key val).run P w = .ok () (setBlock w b (.map (es.modify j (fun e' => { e' with key := key, val := val })) clock)) := by
      simp [Instr.mapUpdate, run_underlying ht, MapKept.run_getObj_map hb, K.check w false hkey, h1, hj, h3, K.stays w hkey, MapKept.run_setObj_map _ hb, Result.andThen, setBlock]
    rw [hrun1] at hrun2
    injection hrun2 with _ hrun2
    have h4 := setBlock_inj hb hrun2
    injection h4 with h4 _
    have hlt : j < es.size := by
      by_cases c : j < es.size
      · exact c
      · rw [Array.getElem?_eq_none (by omega)] at hj; cases hj
    rw [h4]
    refine ⟨fun x hx hne => ?_, { e0 with key := key, val := val }, ?_, rfl, rfl⟩
    · obtain ⟨i, hi, ex⟩ := List.getElem_of_mem hx
      refine List.mem_iff_getElem?.2 ⟨i, ?_⟩
      rw [Array.getElem?_toList, Array.getElem?_modify, if_neg]
      · simpa [Array.getElem?_eq_getElem (by simpa using hi)] using ex
      · intro e
        subst e
        rw [List.getElem?_eq_getElem hi] at h2
        have e2 := Option.some.inj h2
        rw [ex] at e2
        exact hne (e2 ▸ h3)
    · refine List.mem_iff_getElem?.2 ⟨j, ?_⟩
      rw [Array.getElem?_toList, Array.getElem?_modify, if_pos rfl, hj]
      rfl
/-- block b is a map of at most n entries that holds just what G says, at keys that stand for κ's -/
def MapIs {κ ν : Type} (w : World) (P : Program) (k : TypeId) (enc : κ → Value) (vl : ν → Value) (b n : Nat) (G : κ → Option ν) : Prop :=
  ∃ es clock, w.heap[b]? = some (.map es clock) ∧ Fit P k triv es clock ∧ es.size ≤ n ∧ (∀ x ∈ es.toList, ∃ c v, x.key = enc c ∧ x.val = vl v ∧ G c = some v) ∧ ∀ c v, G c = some v → ∃ x ∈ es.toList, x.key = enc c ∧ x.val = vl v
variable {κ ν : Type} {enc : κ → Value} {vl : ν → Value} {G : κ → Option ν} {n : Nat}
theorem MapIs.new (w : World) (P : Program) (k : TypeId) (enc : κ → Value) (vl : ν → Value) : MapIs (w.alloc (.map #[] 0)) P k enc vl w.heap.size 0 (fun _ => none) :=
  ⟨#[], 0, Go.heap_alloc_new w _, ⟨Nat.zero_le _, ⟨by simp, by simp, by simp⟩, by simp⟩, Nat.le_refl _, by simp, by simp⟩
theorem MapIs.below {w w' : World} (h : MapIs w P k enc vl b n G) (hb : Below w.heap.size w w') : MapIs w' P k enc vl b n G := by
  obtain ⟨es, clock, h1, h2⟩ := h
  have hlt : b < w.heap.size := by
    by_cases c : b < w.heap.size
    · exact c
    · rw [Array.getElem?_eq_none (by omega)] at h1; cases h1
  exact ⟨es, clock, (hb.block b hlt).trans h1, h2⟩
theorem MapIs.lt {w : World} (h : MapIs w P k enc vl b n G) : b < w.heap.size := by
  obtain ⟨es, clock, h1, h2⟩ := h
  by_cases c : b < w.heap.size
  · exact c
  · rw [Array.getElem?_eq_none (by omega)] at h1; cases h1
/-- a look-up -/
theorem MapIs.look {w : World} (h : MapIs w P k enc vl b n G) (K : Keyed P k) (ht : P.underlying t = some (.map k e)) (hinj : ∀ c d, enc c = enc d → c = d) {z : Value} (hz : (zeroValue e).run P w = .ok z w) (c : κ) {kl : Lit} (hkey : keyOf P k (enc c) = some kl) :
    (Instr.lookup t (.map (some b)) (enc c) false).run P w = .ok (getV vl z (G c)) w := by
  obtain ⟨es, clock, hb, F, _, H1, H2⟩ := h
  rcases Maps.fit_look false K ht hz hb F hkey with ⟨hrun, hno, _⟩ | ⟨e0, y, he0, hke, hrun, _⟩
  · have hG : G c = none := by
      cases hG : G c with
      | none => rfl
      | some v =>
        obtain ⟨x, hx, hk, _⟩ := H2 c v hG
        exact absurd hk (hno x hx)
    rw [hG]
    exact hrun
  · obtain ⟨c', v, h1, h2, h3⟩ := H1 e0 he0
    have e1 : c' = c := hinj _ _ (h1.symm.trans hke)
    subst e1
    rw [h3]
    show _ = Result.ok (vl v) w
    rw [← h2]
    exact hrun
/-- a store -/
theorem MapIs.store [DecidableEq κ] {w : World} (h : MapIs w P k enc vl b n G) (K : Keyed P k) (ht : P.underlying t = some (.map k e)) (hinj : ∀ c d, enc c = enc d → c = d) (hn : n < maxLen) (c : κ) (v : ν) {kl : Lit} (hkey : keyOf P k (enc c) = some kl) :
    ∃ w', (Instr.mapUpdate t (.map (some b)) (enc c) (vl v)).run P w = .ok () w' ∧ MapIs w' P k enc vl b (n + 1) (fun d => if d = c then some v else G d) ∧ w.grownBy w' (some b) := by
  obtain ⟨es, clock, hb, F, hs, H1, H2⟩ := h
  obtain ⟨es', clock', hrun, F', hs', hwho, hkept, x0, hx0, hk0, hv0⟩ := store_raw (val := vl v) K ht hb F (Nat.lt_of_le_of_lt hs hn) hkey
  refine ⟨_, hrun, ⟨es', clock', ChangeMaps.heap_setBlock_same hb _, F', by omega, fun x hx => ?_, fun d u hd => ?_⟩, ⟨rfl, rfl, rfl, by simp [setBlock], fun i _ hi => ChangeMaps.heap_setBlock_other hb _ (fun e => hi (by rw [e]))⟩⟩
  · rcases hwho x hx with ⟨ho, hne⟩ | ⟨h1, h2⟩
    · obtain ⟨d, u, h1, h2, h3⟩ := H1 x ho
      exact ⟨d, u, h1, h2, by dsimp only; rw [if_neg (fun e => hne (by rw [h1, e]))]; exact h3⟩
    · exact ⟨c, v, h1, h2, by dsimp only; rw [if_pos rfl]⟩
  · dsimp only at hd
    by_cases e1 : d = c
    · rw [if_pos e1] at hd
      obtain rfl := Option.some.inj hd
      exact ⟨x0, hx0, by rw [e1]; exact hk0, hv0⟩
    · rw [if_neg e1] at hd
      obtain ⟨x, hx, h1, h2⟩ := H2 d u hd
      exact ⟨x, hkept x hx (fun h => e1 (hinj _ _ (h1.symm.trans h))), h1, h2⟩
/-- what a map holds hangs on its block alone -/
theorem MapIs.moved {w w1 : World} {es1 : Array MapEntry} {clock1 : Nat} {o : Obj} (h : MapIs (setBlock w b (.map es1 clock1)) P k enc vl b n G) (hb : w.heap[b]? = some (.map es clock)) (h1 : w1.heap[b]? = some (.map es1 clock1)) : MapIs w1 P k enc vl b n G := by
  obtain ⟨es2, clock2, hb2, rest⟩ := h
  rw [ChangeMaps.heap_setBlock_same hb] at hb2
  injection hb2 with hb2
  injection hb2 with e1 e2
  subst e1 e2
  exact ⟨_, _, h1, rest⟩
/-- 'm[c] op= ..': the entry, then its store -/
theorem ok_world {α : Type} {a b : α} {u v : World} (h : Result.ok a u = Result.ok b v) : u = v := by
  cases h
  rfl
set_option maxRecDepth 20000 in
theorem MapIs.entry [DecidableEq κ] {w : World} (h : MapIs w P k enc vl b n G) (KL : WideMaps.KeyLaw P k) (K : Keyed P k) (ht : P.underlying t = some (.map k e)) (hinj : ∀ c d, enc c = enc d → c = d) {z : Value} {v0 : ν} (hzv : vl v0 = z) (hz : ∀ u : World, (zeroValue e).run P u = .ok z u)
    (hn : n < maxLen) (c : κ) {kl : Lit} (hkey : keyOf P k (enc c) = some kl) :
    ∃ (x : Value) (st : Nat) (es1 : Array MapEntry) (clock1 : Nat), (Instr.mapEntry t (.map (some b)) (enc c)).run P w = .ok (.tuple #[x, goInt st]) (setBlock w b (.map es1 clock1)) ∧
      (∀ w1 : World, w1.heap[b]? = some (.map es1 clock1) → (Instr.lookup t (.map (some b)) (enc c) false).run P w1 = .ok (getV vl z (G c)) w1) ∧
      ∀ (w2 : World) (v : ν), w2.heap[b]? = some (.map es1 clock1) → ∃ w3, (Instr.entryStore t (.map (some b)) (goInt st) (vl v)).run P w2 = .ok () w3 ∧ MapIs w3 P k enc vl b (n + 1) (fun d => if d = c then some v else G d) ∧ w2.grownBy w3 (some b) := by
  obtain ⟨es, clock, hb, F, hs, H1, H2⟩ := id h
  obtain ⟨x, st, es1, clock1, hrun, _, hst⟩ := WideElems.entry_then_store KL ht hz hb F hkey
  refine ⟨x, st, es1, clock1, hrun, fun w1 hw1 => ?_, fun w2 v hw2 => ?_⟩
  · rcases K.find w hkey es.toList F.keys with ⟨h1, h2⟩ | ⟨j, e0, h1, h2, h3⟩
    · have hrun2 : (Instr.mapEntry t (.map (some b)) (enc c)).run P w = .ok (.tuple #[z, goInt clock]) (setBlock w b (.map (es.push ⟨enc c, z, clock⟩) (clock + 1))) := by
        simp [Instr.mapEntry, run_underlying ht, MapKept.run_getObj_map hb, K.check w false hkey, h1, hz, MapKept.run_setObj_map _ hb, Result.andThen, setBlock]
      have hrun3 : (Instr.mapUpdate t (.map (some b)) (enc c) (vl v0)).run P w = .ok () (setBlock w b (.map (es.push ⟨enc c, vl v0, clock⟩) (clock + 1))) := by
        simp [Instr.mapUpdate, run_underlying ht, MapKept.run_getObj_map hb, K.check w false hkey, h1, MapKept.run_setObj_map _ hb, Result.andThen, setBlock]
      obtain ⟨w', hr, hM, _⟩ := h.store K ht hinj hn c v0 hkey
      have hr := Result.ok.inj (hrun3.symm.trans hr)
      replace hr := hr.2
      have h00 := hrun.symm.trans hrun2
      clear hrun2
      have h01 := ok_world h00
      clear h00
      have h4 := setBlock_inj hb h01
      obtain ⟨h4, h5⟩ := Obj.map.inj h4
      rw [← hr, hzv, ← h4, ← h5] at hM
      have hL := (hM.moved (o := .map es clock) hb hw1).look K ht hinj (hz w1) c hkey
      have hG : G c = none := by
        cases hG : G c with
        | none => rfl
        | some v =>
          obtain ⟨x, hx, hk, _⟩ := H2 c v hG
          exact absurd hk (h2 x hx)
      rw [hG]
      rw [if_pos rfl] at hL
      have hL' : _ = Result.ok (vl v0) w1 := hL
      rw [hzv] at hL'
      exact hL'
    · have hj : es[j]? = some e0 := by simpa using h2
      have hsame : es.modify j (fun e => { e with key := enc c }) = es := by
        apply Array.ext'
        rw [Array.toList_modify, ChangeMaps.modify_eq_set _ _ _ _ h2]
        have : ({ e0 with key := enc c } : MapEntry) = e0 := by rw [← h3]
        rw [this]
        exact WideElems.set_self _ _ _ h2
      have hrun2 : (Instr.mapEntry t (.map (some b)) (enc c)).run P w = .ok (.tuple #[e0.val, goInt e0.born]) (setBlock w b (.map es clock)) := by
        simp [Instr.mapEntry, run_underlying ht, MapKept.run_getObj_map hb, K.check w false hkey, h1, hj, h3, K.stays w hkey, hsame, MapKept.run_setObj_map _ hb, Result.andThen, setBlock]
      have h00 := hrun.symm.trans hrun2
      clear hrun2
      have h01 := ok_world h00
      clear h00
      have h4 := setBlock_inj hb h01
      obtain ⟨h4, h5⟩ := Obj.map.inj h4
      subst h4 h5
      exact MapIs.look ⟨_, _, hw1, F, hs, H1, H2⟩ K ht hinj (hz w1) c hkey
  · obtain ⟨es', clock', hr1, hr2⟩ := hst w2 (vl v) hw2
    obtain ⟨w', hr, hM, _⟩ := h.store K ht hinj hn c v hkey
    have hr := Result.ok.inj (hr2.symm.trans hr)
    replace hr := hr.2
    rw [← hr] at hM
    exact ⟨_, hr1, hM.moved (o := .map es clock) hb (ChangeMaps.heap_setBlock_same hw2 _), ⟨rfl, rfl, rfl, by simp [setBlock], fun i _ hi => ChangeMaps.heap_setBlock_other hw2 _ (fun e => hi (by rw [e]))⟩⟩
end
end Go.Proofs.YtahagfdjpldblaaGreatDoor
