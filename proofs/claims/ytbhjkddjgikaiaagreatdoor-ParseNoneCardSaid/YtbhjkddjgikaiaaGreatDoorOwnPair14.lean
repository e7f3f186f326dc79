/-
  Own texts, several in one (Pair14, NoneP, Law14e).
-/
import Derived.Test.YtbhjkddjgikaiaaGreatDoorMrg37
import Derived.Test.YtbhjkddjgikaiaaGreatDoorMrg40
import Derived.Test.YtbhjkddjgikaiaaGreatDoorMrg31
import Derived.Test.YtbhjkddjgikaiaaGreatDoorMrg24
import Derived.Lib.ConvBytes
namespace Go.Proofs.YtbhjkddjgikaiaaGreatDoor
open Go.RowKit
set_option linter.unusedVariables false
set_option linter.unusedSimpArgs false
/-- what a parser's answer says of a text -/
def PO (w : World) (l : List UInt8) (p : Option Addr) (n c : Nat) (a e : Int) : Prop :=
  (∃ pp cc : Nat, Sc.parse Dy.parse l = .error (pp, cc) ∧ p = none ∧ n = 0 ∧ c = 0 ∧ a = (pp : Int) ∧ e = (cc : Int)) ∨
  (∃ (ops : List Sc.Op) (vals : List (Sc.Op × Value × Value)), Sc.parse Dy.parse l = .ok ops ∧ vals.map (·.1) = ops ∧ n = vals.length ∧ a = 0 ∧ e = 0 ∧ ElsAt opE 8 opE0 w p vals ∧ ∀ x ∈ vals, okP w x)
theorem parse_out {B : Nat} {l : List UInt8} {e : Ending} {w : World} (h : parseR B (Sc.parse Dy.parse l) e w) : ∃ p n c a er, e = .returned (.tuple #[.slice p n c, .int .i64 a, .int .i64 er]) ∧ PO w l p n c a er := by
  rcases hp : Sc.parse Dy.parse l with ⟨pp, cc⟩ | ops
  · rw [hp] at h
    exact ⟨none, 0, 0, (pp : Int), (cc : Int), h, .inl ⟨pp, cc, hp, rfl, rfl, rfl, rfl, rfl⟩⟩
  · rw [hp] at h
    obtain ⟨v, vals, he, how, hv, hok⟩ : ∃ (v : Value) (vals : List (Sc.Op × Value × Value)), e = .returned (.tuple #[v, .int .i64 0, .int .i64 0]) ∧ w.ownsRow B 48 8 v vals.length (vals.flatMap opE) ∧ vals.map (·.1) = ops ∧ ∀ x ∈ vals, okP w x := h
    obtain ⟨_, p, c, rfl, hE⟩ := els_ownG opE 8 opE0 (fun _ => rfl) (by omega) how
    exact ⟨p, vals.length, c, 0, 0, he, .inr ⟨ops, vals, hp, hv, rfl, rfl, rfl, hE, hok⟩⟩
theorem PO.below {w w' : World} {l : List UInt8} {p : Option Addr} {n c : Nat} {a e : Int} (h : PO w l p n c a e) (hb : Below w.heap.size w w') : PO w' l p n c a e := by
  rcases h with h | ⟨ops, vals, h1, h2, h3, h4, h5, h6, h7⟩
  · exact .inl h
  · exact .inr ⟨ops, vals, h1, h2, h3, h4, h5, h6.below hb, fun x hx => okP_only (h7 x hx) (Only.of_below (S := fun _ => False) hb) (fun _ _ h => h)⟩
theorem pair14 {w : World} {l : List UInt8} {p1 p2 : Option Addr} {n1 n2 c1 c2 : Nat} {a1 a2 e1 e2 : Int} (h1 : PO w l p1 n1 c1 a1 e1) (h2 : PO w l p2 n2 c2 a2 e2) : n2 = n1 ∧ a2 = a1 ∧ e2 = e1 ∧
    Calls Tryz.prog 19 #[.slice p1 n1 c1, .slice p2 n2 c2] w fun e w' => e = .returned (.bool true) ∧ Below w.heap.size w w' := by
  rcases h1 with ⟨pp, cc, hp, rfl, rfl, rfl, rfl, rfl⟩ | ⟨ops, vals, hp, hv, rfl, rfl, rfl, hE, hok⟩
  · rcases h2 with ⟨pp2, cc2, hp2, rfl, rfl, rfl, rfl, rfl⟩ | ⟨ops, vals, hp2, _⟩
    · rw [hp] at hp2
      simp only [Except.error.injEq, Prod.mk.injEq] at hp2
      obtain ⟨rfl, rfl⟩ := hp2
      exact ⟨rfl, rfl, rfl, same14 none none 0 0 [] [] w (.inl rfl) (.inl rfl) (fun e he => by cases he) (fun e he => by cases he) (by simp) rfl (fun e he => by cases he)⟩
    · rw [hp] at hp2; cases hp2
  · rcases h2 with ⟨pp2, cc2, hp2, _⟩ | ⟨ops2, vals2, hp2, hv2, rfl, rfl, rfl, hE2, hok2⟩
    · rw [hp] at hp2; cases hp2
    · rw [hp] at hp2
      obtain rfl := Except.ok.inj hp2
      have hbd := Sc.parse_bd hp
      have hl1 : vals.length = ops.length := by rw [← hv, List.length_map]
      have hl2 : vals2.length = ops.length := by rw [← hv2, List.length_map]
      exact ⟨by omega, rfl, rfl, same14 p1 p2 c1 c2 vals vals2 w hE hE2 hok hok2 (by have := hbd.2; omega) (hv.trans hv2.symm) (fun e he => hbd.1 e.1 (by rw [← hv]; exact List.mem_map_of_mem he))⟩
end Go.Proofs.YtbhjkddjgikaiaaGreatDoor

namespace Go.Proofs.YtbhjkddjgikaiaaGreatDoor
set_option linter.unusedVariables false
set_option linter.unusedSimpArgs false
set_option autoImplicit false
namespace Sc
open Lx
def gapOk (s : List UInt8) : Prop := s = [32] ∨ s = [10] ∨ ∃ n, s = 35 :: (n ++ [10]) ∧ ∀ b ∈ n, b ≠ (10 : UInt8)
theorem split_gap (pd : List UInt8 → Option Int) (s : List UInt8) (h : gapOk s) (m : List UInt8) (i : Nat) : split pd (s ++ m) i = split pd m (i + s.length) := by
  rcases h with rfl | rfl | ⟨n, rfl, hn⟩
  · exact split_blank pd 32 m i (.inl rfl)
  · exact split_blank pd 10 m i (.inr rfl)
  · have hr : run note ((35 :: n) ++ (10 :: m)) = (35 :: n).length := run_stop note (10 :: m) (by show note 10 = false; decide) (35 :: n) (fun b hb => by
      rcases List.mem_cons.1 hb with rfl | hb
      · decide
      · simp [note, hn b hb])
    have e : (35 :: (n ++ [10])) ++ m = 35 :: (n ++ (10 :: m)) := by simp
    rw [e, split_note]
    have hr : run note (35 :: (n ++ (10 :: m))) = n.length + 1 := by simpa using hr
    rw [hr, List.drop_succ_cons, List.drop_left, split_blank pd 10 m _ (.inr rfl)]
    congr 1
    simp
    omega
theorem split_gaps (pd : List UInt8 → Option Int) : ∀ (l : List (List UInt8)), (∀ s ∈ l, gapOk s) → ∀ (m : List UInt8) (i : Nat), split pd (l.flatten ++ m) i = split pd m (i + l.flatten.length)
  | [], _, m, i => by simp
  | s :: l, h, m, i => by
    rw [List.flatten_cons, List.append_assoc, split_gap pd s (h s (by simp)), split_gaps pd l (fun t ht => h t (by simp [ht])), List.length_append]
    congr 1
    omega
theorem parse_gaps (pd : List UInt8 → Option Int) (l : List (List UInt8)) (h : ∀ s ∈ l, gapOk s) (hl : l.flatten.length ≤ 65536) : parse pd l.flatten = .ok [] := by
  have h1 := split_gaps pd l h [] 0
  rw [List.append_nil, split_nil] at h1
  unfold parse
  rw [if_neg (by omega), h1]
  exact parseOf_end rfl
theorem parse_gaps_word (pd : List UInt8 → Option Int) (l : List (List UInt8)) (h : ∀ s ∈ l, gapOk s) (x : List UInt8) (hx : ∀ b ∈ x, low b = true) (hl : l.flatten.length + (x.length + 1) ≤ 65536) : parse pd (l.flatten ++ 120 :: x) = .error (l.flatten.length, 17) := by
  have h1 := split_gaps pd l h (120 :: x) 0
  have h2 : one pd (120 :: x) = .ok (⟨1, 120 :: x, 0, 0, 0⟩, x.length + 1) := by
    have hr : run low (120 :: x) = x.length + 1 := by
      have := run_all low (120 :: x) (fun b hb => by
        rcases List.mem_cons.1 hb with rfl | hb
        · decide
        · exact hx b hb)
      simpa using this
    unfold one
    simp only [List.getD_cons_zero]
    rw [if_pos (by decide), hr]
    simp
  have h3 := split_one pd 120 x (0 + l.flatten.length) _ _ (by decide) (by decide) (by decide) h2
  rw [h3] at h1
  have h4 : (120 :: x).drop (x.length + 1) = [] := by simp
  rw [h4, split_nil] at h1
  unfold parse
  rw [if_neg (by rw [List.length_append, List.length_cons]; omega), h1]
  have hk : kindOf ((⟨1, 120 :: x, 0, 0, 0⟩ : Tk).put (0 + l.flatten.length) :: [tk0.put (0 + l.flatten.length + (x.length + 1))]) = none := by
    refine kindOf_none fun j hj => ?_
    unfold isN
    have hw : ∀ k, k < 8 → (word k).getD 0 0 ≠ 120 ∧ word k ≠ [] := by decide
    have h5 := hw j hj
    have h6 : ¬ (120 :: x) = word j := fun e => h5.1 (by rw [← e]; rfl)
    simp [hd, Tk.put, h5.2, h6]
  show parseOf 101 0 _ = _
  rw [parseOf_word (by show (1 : Nat) ≠ 0; omega) (by omega) hk]
  simp [hd, Tk.put]
end Sc
end Go.Proofs.YtbhjkddjgikaiaaGreatDoor

namespace Go.Proofs.YtbhjkddjgikaiaaGreatDoor
open Go.RowKit
set_option linter.unusedVariables false
set_option linter.unusedSimpArgs false
theorem conv_rune (r : Nat) (h : r < 26) (w : World) : (convert 21 9 (.int .i32 (97 + (r : Int)))).run Tryz.prog w = .ok (.string ⟨#[UInt8.ofNat (97 + r)]⟩) w := by
  rcases (show r = 0 ∨ r = 1 ∨ r = 2 ∨ r = 3 ∨ r = 4 ∨ r = 5 ∨ r = 6 ∨ r = 7 ∨ r = 8 ∨ r = 9 ∨ r = 10 ∨ r = 11 ∨ r = 12 ∨ r = 13 ∨ r = 14 ∨ r = 15 ∨ r = 16 ∨ r = 17 ∨ r = 18 ∨ r = 19 ∨ r = 20 ∨ r = 21 ∨ r = 22 ∨ r = 23 ∨ r = 24 ∨ r = 25 by omega) with rfl | rfl | rfl | rfl | rfl | rfl | rfl | rfl | rfl | rfl | rfl | rfl | rfl | rfl | rfl | rfl | rfl | rfl | rfl | rfl | rfl | rfl | rfl | rfl | rfl | rfl <;> kernel_rfl
theorem rune_low (r : Nat) (h : r < 26) : Lx.low (97 + UInt8.ofNat r) = true := by
  have key : ∀ r, r < 26 → Lx.low (97 + UInt8.ofNat r) = true := by decide
  exact key r h
set_option maxHeartbeats 8000000 in
set_option maxRecDepth 100000 in
theorem parseNone_law (a1 : Option Addr) (cap1 : Nat) (l1 : List Int) (note word : ByteArray) (w : World) (hM : Glb13 w) (hE1 : NsAt .u8 w (.slice a1 l1.length cap1) l1) (hb : ∀ x ∈ l1, 0 ≤ x ∧ x ≤ 255) :
    Calls Tryz.prog 3 #[.slice a1 l1.length cap1, .string note, .string word] w fun e w' => e = .returned (.bool true) ∧ Below w.heap.size w w' := by
  have HA := Lib.hid (awake14 w hM)
  have HE1 := Lib.hid (And.intro hE1 hb)
  have HM := Lib.hid hM
  have HC := Lib.hid (fun W => Any.strings_Contains_one Tryz.lays144 note 10 W)
  clear hM hE1 hb
  go_enter Tryz.func3, Tryz.ntmps3
  go_wp2_with fail
  refine HA.out.mono ?_
  rintro _ w1 ⟨rfl, hb1⟩
  have HBS := Lib.hid hb1
  clear hb1
  by_cases h1 : 30 < l1.length
  · have j1 : (30 : Int) < (l1.length : Int) := by omega
    go_wp2_with fail
    go_ret
    exact ⟨rfl, HBS.out⟩
  · have j1 : ¬ (30 : Int) < (l1.length : Int) := by omega
    by_cases h2 : 30 < note.size
    · have j2 : (30 : Int) < (note.size : Int) := by omega
      go_wp2_with fail
      go_ret
      exact ⟨rfl, HBS.out⟩
    · have j2 : ¬ (30 : Int) < (note.size : Int) := by omega
      go_wp2_with fail
      refine (HC.out w1).mono ?_
      rintro _ w1 ⟨rfl, rfl⟩
      by_cases hi : 0 ≤ Lib.indexByte note.data.toList 10
      · go_wp2_with fail
        go_ret
        exact ⟨rfl, HBS.out⟩
      · by_cases h3 : 20 < word.size
        · have j3 : (20 : Int) < (word.size : Int) := by omega
          go_wp2_with fail
          go_ret
          exact ⟨rfl, HBS.out⟩
        · have j3 : ¬ (20 : Int) < (word.size : Int) := by omega
          have hnn : ∀ b ∈ note.data.toList, b ≠ (10 : UInt8) := by
            have hge := Lib.indexByte_ge note.data.toList 10
            have hr := (note_idx note.data.toList).1 (by omega)
            intro b hb
            have := Lx.mem_take_run Lx.note note.data.toList b (by rw [hr, List.take_length]; exact hb)
            intro e
            rw [e] at this
            revert this
            decide
          have H30 := Lib.hid (And.intro h1 (And.intro h2 (And.intro h3 hnn)))
          clear h1 h2 h3 hnn
          go_wp2_with fail
          clear j1 j2 j3 hi
          go_loopw [7, 40] (fun st iv wr => ∃ (k : Nat) (segs : List (List UInt8)), k ≤ l1.length ∧ iv = .int .i64 (k : Int) ∧ st = .string ⟨segs.flatten.toArray⟩ ∧ (∀ s ∈ segs, Sc.gapOk s) ∧ segs.flatten.length ≤ 32 * k ∧ Below w1.heap.size w1 wr) (fun _ iv _ => l1.length - (intOf iv).toNat)
          case atStart => exact ⟨0, [], by omega, rfl, rfl, (fun s hs => by cases hs), by simp, Below.refl _ _⟩
          case round =>
            obtain ⟨k, segs, hk, rfl, rfl, hsg, hln, BB⟩ := hrel
            have h30 := H30.out
            have HSG := Lib.hid (And.intro hsg hln)
            have HB1 := Lib.hid BB
            have HBZ := Lib.hid (Below.trans HBS.out (BB.mono HBS.out.size))
            obtain ⟨S, hS⟩ : ∃ S : ByteArray, S = ⟨segs.flatten.toArray⟩ := ⟨_, rfl⟩
            rw [← hS]
            have hsz : S.size ≤ 32 * k := by rw [hS]; show segs.flatten.toArray.size ≤ _; rw [List.size_toArray]; exact hln
            have HS := Lib.hid hS
            clear BB hsg hln hS
            by_cases hlt : k < l1.length
            · have i0 : (0 : Int) ≤ (k : Int) := by omega
              have i1 : (k : Int) < (l1.length : Int) := by omega
              have e9 : IntKind.i64.wrap ((k : Int) + 1) = (k : Int) + 1 := by rw [IntKind.wrap_i64]; omega
              obtain ⟨b, off, rfl, hcc⟩ : ∃ b off, a1 = some ⟨b, off, none⟩ ∧ ∀ i, i < l1.length → w.cell? ⟨b, off + i, none⟩ = some (.int .u8 (l1.getD i 0)) := by
                obtain ⟨p, c, e, h⟩ := HE1.out.1
                cases e
                rcases h with h | h
                · rw [h] at hlt; simp at hlt
                · exact h
              have c0 := cell_then (hcc k hlt) HBZ.out
              have hbd := HE1.out.2 _ (getD_mem (d := 0) hlt)
              generalize l1.getD k 0 = q at c0 hbd
              have x1 : 1 + note.size ≤ 9223372036854775807 := by omega
              have x2 : 1 + note.size + 1 ≤ 9223372036854775807 := by omega
              have x3 : S.size + (1 + note.size + 1) ≤ 9223372036854775807 := by omega
              have x4 : S.size + 1 ≤ 9223372036854775807 := by omega
              have HLT := Lib.hid (And.intro hlt hsz)
              clear hlt hcc h30 hk hsz
              have hm : q % 3 = 0 ∨ q % 3 = 1 ∨ q % 3 = 2 := by omega
              rcases hm with hm | hm | hm
              all_goals
                have hm' : q.tmod 3 = q % 3 := Int.tmod_eq_emod_of_nonneg (by omega)
                go_wp2_with fail
              all_goals
                have hl1 := HLT.out
                have hg1 := HSG.out
                have hnz : note.data.toList.length ≤ 30 := by have := H30.out.2.1; have := size_data note; omega
              · refine ⟨⟨k + 1, segs ++ [[32]], by omega, by simp, ?_, fun s hs => ?_, ?_, below_alloc HB1.out _⟩, by simp [intOf]; omega⟩
                · rw [HS.out]
                  refine congrArg Value.string ?_
                  apply ByteArray.ext
                  simp
                · rcases List.mem_append.1 hs with hs | hs
                  · exact hg1.1 s hs
                  · exact .inl (List.mem_singleton.1 hs)
                · simp
                  have := hg1.2
                  simp at this
                  omega
              · refine ⟨⟨k + 1, segs ++ [[10]], by omega, by simp, ?_, fun s hs => ?_, ?_, below_alloc HB1.out _⟩, by simp [intOf]; omega⟩
                · rw [HS.out]
                  refine congrArg Value.string ?_
                  apply ByteArray.ext
                  simp
                · rcases List.mem_append.1 hs with hs | hs
                  · exact hg1.1 s hs
                  · exact .inr (.inl (List.mem_singleton.1 hs))
                · simp
                  have := hg1.2
                  simp at this
                  omega
              · refine ⟨⟨k + 1, segs ++ [35 :: (note.data.toList ++ [10])], by omega, by simp, ?_, fun s hs => ?_, ?_, below_alloc HB1.out _⟩, by simp [intOf]; omega⟩
                · rw [HS.out]
                  refine congrArg Value.string ?_
                  apply ByteArray.ext
                  simp
                · rcases List.mem_append.1 hs with hs | hs
                  · exact hg1.1 s hs
                  · exact .inr (.inr ⟨_, List.mem_singleton.1 hs, H30.out.2.2.2⟩)
                · have := hg1.2
                  rw [List.flatten_append, List.length_append]
                  have e : [35 :: (note.data.toList ++ [10])].flatten.length = note.data.toList.length + 2 := by simp
                  rw [e]
                  omega
            · have i1 : ¬ (k : Int) < (l1.length : Int) := by omega
              have HLN := Lib.hid (show segs.flatten.length ≤ 960 by have := HSG.out.2; omega)
              have HPQ := Lib.hid (pparse_any S segs.flatten (by rw [HS.out]) wr (HM.out.below HBZ.out))
              have HPP := Lib.hid (Sc.parse_gaps Dy.parse segs HSG.out.1 (by have := HLN.out; omega))
              clear hlt hk h30
              go_wp2_with fail
              refine HPQ.out.mono ?_
              rintro e2 w2' ⟨hr2, hb2⟩
              rw [HPP.out] at hr2
              obtain ⟨v, vals, rfl, how2, hv2, _⟩ : ∃ (v : Value) (vals : List (Sc.Op × Value × Value)), e2 = .returned (.tuple #[v, .int .i64 0, .int .i64 0]) ∧ w2'.ownsRow wr.heap.size 48 8 v vals.length (vals.flatMap opE) ∧ vals.map (·.1) = [] ∧ ∀ x ∈ vals, okP w2' x := hr2
              obtain rfl : vals = [] := by simpa using hv2
              obtain ⟨p2, c2, rfl⟩ := own_slc how2
              have HB2 := Lib.hid (below_then HBZ.out hb2)
              clear how2 hv2 hb2
              have hcv := Lib.run_convert_string_bytes (P := Tryz.prog) w2' 9 22 5 word Tryz.underlying9 Tryz.underlying22 Tryz.underlying5
              have hwc := fun j hj => Lib.bytesWorld_cell w2' 5 word j hj
              have hwb : Below w2'.heap.size w2' (Lib.bytesWorld w2' 5 word) := ⟨rfl, rfl, rfl, by rw [Lib.bytesWorld_size]; omega, fun k hk => Lib.bytesWorld_at_old w2' _ _ k hk⟩
              have HWC := Lib.hid (And.intro hwc (below_then HB2.out hwb))
              clear hwc hwb
              go_wp2_with fail
              clear hcv
              obtain ⟨wB, hwB⟩ : ∃ x, x = Lib.bytesWorld w2' 5 word := ⟨_, rfl⟩
              rw [← hwB]
              have HWC : Hid ((∀ j, j < word.size → wB.cell? ⟨w2'.heap.size, j, none⟩ = some (.int .u8 (word.data.toList.getD j 0).toNat)) ∧ Below w.heap.size w wB) := Lib.hid (by rw [hwB]; exact HWC.out)
              clear hwB
              generalize w2'.heap.size = gB at *
              have h3 := H30.out.2.2.1
              have HW3 := Lib.hid h3
              clear h3
              go_loopw [13, 64] (fun xv iv wr => ∃ (j : Nat) (x : List UInt8), j ≤ word.size ∧ iv = .int .i64 (j : Int) ∧ xv = .string ⟨(120 :: x).toArray⟩ ∧ x.length = j ∧ (∀ b ∈ x, Lx.low b = true) ∧ wr = wB) (fun _ iv _ => word.size - (intOf iv).toNat)
              case atStart => exact ⟨0, [], by omega, rfl, rfl, rfl, (fun b hb => by cases hb), rfl⟩
              case round =>
                obtain ⟨j, x, hj, rfl, rfl, hxl, hxlow, rfl⟩ := hrel
                have HX := Lib.hid (And.intro hxl hxlow)
                clear hxlow
                by_cases hlt : j < word.size
                · have i0 : (0 : Int) ≤ (j : Int) := by omega
                  have i2 : (j : Int) < (word.size : Int) := by omega
                  have e9 : IntKind.i64.wrap ((j : Int) + 1) = (j : Int) + 1 := by have := HW3.out; rw [IntKind.wrap_i64]; omega
                  have cw := HWC.out.1 j hlt
                  have hq256 : (word.data.toList.getD j 0).toNat < 256 := UInt8.toNat_lt _
                  generalize (word.data.toList.getD j 0).toNat = q at cw hq256
                  obtain ⟨r, hr⟩ : ∃ r, r = q % 26 := ⟨_, rfl⟩
                  have hr26 : r < 26 := by omega
                  have e1 : (q : Int) % 26 = (r : Int) := by omega
                  have e2 : (q : Int).tmod 26 = (r : Int) := by rw [Int.tmod_eq_emod_of_nonneg (by omega)]; exact e1
                  obtain ⟨X, hX⟩ : ∃ X : ByteArray, X = ⟨(120 :: x).toArray⟩ := ⟨_, rfl⟩
                  rw [← hX]
                  have hXs : X.size = j + 1 := by rw [hX]; show (120 :: x).toArray.size = _; rw [List.size_toArray, List.length_cons, hxl]
                  have x1 : X.size + 1 ≤ 9223372036854775807 := by have := HW3.out; omega
                  have HXX := Lib.hid (And.intro hX (And.intro hlt hr26))
                  have hcr := conv_rune r hr26 wr
                  clear hX hr hlt hxl hj
                  go_wp2_with fail
                  have hx := HX.out
                  have hxx := HXX.out
                  refine ⟨⟨j + 1, x ++ [97 + UInt8.ofNat r], by omega, by simp, ?_, by rw [List.length_append]; simp; omega, fun c hc => ?_, trivial⟩, by simp [intOf]; omega⟩
                  · rw [hxx.1]
                    refine congrArg Value.string ?_
                    apply ByteArray.ext
                    simp
                  · rcases List.mem_append.1 hc with hc | hc
                    · exact hx.2 c hc
                    · rw [List.mem_singleton.1 hc]
                      exact rune_low r hxx.2.2
                · have i2 : ¬ (j : Int) < (word.size : Int) := by omega
                  obtain ⟨X, hX⟩ : ∃ X : ByteArray, X = ⟨(120 :: x).toArray⟩ := ⟨_, rfl⟩
                  rw [← hX]
                  have hXs : X.size = x.length + 1 := by rw [hX]; show (120 :: x).toArray.size = _; rw [List.size_toArray, List.length_cons]
                  have hSs : S.size = segs.flatten.length := by rw [HS.out]; show segs.flatten.toArray.size = _; rw [List.size_toArray]
                  have h20 := HW3.out
                  have h960 := HLN.out
                  have x1 : S.size + X.size ≤ 9223372036854775807 := by omega
                  have hpp := Sc.parse_gaps_word Dy.parse segs HSG.out.1 x HX.out.2 (by omega)
                  have hpq := pparse_any (S ++ X) (segs.flatten ++ 120 :: x) (by rw [HS.out, hX]; simp) wr (HM.out.below HWC.out.2)
                  rw [hpp] at hpq
                  have HPQ2 := Lib.hid hpq
                  have HSS := Lib.hid hSs
                  clear hX hXs hSs h20 h960 hpp hpq hlt hxl hj
                  go_wp2_with fail
                  refine HPQ2.out.mono ?_
                  rintro e5 w5' ⟨hr5, hb5⟩
                  have he : e5 = .returned (.tuple #[.slice none 0 0, .int .i64 ((segs.flatten.length : Nat) : Int), .int .i64 ((17 : Nat) : Int)]) := hr5
                  rw [he]
                  have HB5 := Lib.hid (below_then HWC.out.2 hb5)
                  have hz : ((segs.flatten.length : Nat) : Int) = (S.size : Int) := by rw [HSS.out]
                  rw [hz]
                  clear hr5 he hb5 hz
                  go_wp2_with fail
                  go_ret
                  exact ⟨rfl, HB5.out⟩
end Go.Proofs.YtbhjkddjgikaiaaGreatDoor
