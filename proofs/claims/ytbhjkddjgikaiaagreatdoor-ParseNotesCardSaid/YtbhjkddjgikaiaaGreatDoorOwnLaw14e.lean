/-
  Own texts, several in one (Law14e, NoteP, Cnt13).
-/
import Derived.Test.YtbhjkddjgikaiaaGreatDoorOwnLaid13n
import Derived.Test.YtbhjkddjgikaiaaGreatDoorOwnLaw14c
import Derived.Test.YtbhjkddjgikaiaaGreatDoorMrg24
import Derived.Lib.ConvBytes
import Derived.Test.YtbhjkddjgikaiaaGreatDoorMrg25
import Derived.Test.YtbhjkddjgikaiaaGreatDoorMrg36
import Derived.Test.YtbhjkddjgikaiaaGreatDoorMrg27
namespace Go.Proofs.YtbhjkddjgikaiaaGreatDoor
open Go.RowKit
set_option linter.unusedVariables false
set_option linter.unusedSimpArgs false
theorem conv_rune (r : Nat) (h : r < 26) (w : World) : (convert 21 9 (.int .i32 (97 + (r : Int)))).run Tryz.prog w = .ok (.string ⟨#[UInt8.ofNat (97 + r)]⟩) w := by
  rcases (show r = 0 ∨ r = 1 ∨ r = 2 ∨ r = 3 ∨ r = 4 ∨ r = 5 ∨ r = 6 ∨ r = 7 ∨ r = 8 ∨ r = 9 ∨ r = 10 ∨ r = 11 ∨ r = 12 ∨ r = 13 ∨ r = 14 ∨ r = 15 ∨ r = 16 ∨ r = 17 ∨ r = 18 ∨ r = 19 ∨ r = 20 ∨ r = 21 ∨ r = 22 ∨ r = 23 ∨ r = 24 ∨ r = 25 by omega) with rfl | rfl | rfl | rfl | rfl | rfl | rfl | rfl | rfl | rfl | rfl | rfl | rfl | rfl | rfl | rfl | rfl | rfl | rfl | rfl | rfl | rfl | rfl | rfl | rfl | rfl <;> kernel_rfl
theorem rune_low (r : Nat) (h : r < 26) : Lx.low (97 + UInt8.ofNat r) = true := by
  have key : ∀ r, r < 26 → Lx.low (97 + UInt8.ofNat r) = true := by decide
  exact key r h
set_option maxHeartbeats 8000000 in
set_option maxRecDepth 100000 in
theorem parseNone_law (a1 : Option Addr) (cap1 : Nat) (l1 : List Int) (note word : ByteArray) (w : World) (hM : Glb13 w) (hE1 : NsAt .u8 w (.slice a1 l1.length cap1) l1) (hb : ∀ x ∈ l1, 0 ≤ x ∧ x ≤ 255) :
    Calls Tryz.prog 3 #[.slice a1 l1.length cap1, .string note, .string word] w fun e w' => e = .returned (.bool true) ∧ Below w.heap.size w w' := by
  have HA := Lib.hid (awake14 w hM)
  have HE1 := Lib.hid (And.intro hE1 hb)
  have HM := Lib.hid hM
  have HC := Lib.hid (fun W => Any.strings_Contains_one Tryz.lays144 note 10 W)
  clear hM hE1 hb
  go_enter Tryz.func3, Tryz.ntmps3
  go_wp2_with fail
  refine HA.out.mono ?_
  rintro _ w1 ⟨rfl, hb1⟩
  have HBS := Lib.hid hb1
  clear hb1
  by_cases h1 : 30 < l1.length
  · have j1 : (30 : Int) < (l1.length : Int) := by omega
    go_wp2_with fail
    go_ret
    exact ⟨rfl, HBS.out⟩
  · have j1 : ¬ (30 : Int) < (l1.length : Int) := by omega
    by_cases h2 : 30 < note.size
    · have j2 : (30 : Int) < (note.size : Int) := by omega
      go_wp2_with fail
      go_ret
      exact ⟨rfl, HBS.out⟩
    · have j2 : ¬ (30 : Int) < (note.size : Int) := by omega
      go_wp2_with fail
      refine (HC.out w1).mono ?_
      rintro _ w1 ⟨rfl, rfl⟩
      by_cases hi : 0 ≤ Lib.indexByte note.data.toList 10
      · go_wp2_with fail
        go_ret
        exact ⟨rfl, HBS.out⟩
      · by_cases h3 : 20 < word.size
        · have j3 : (20 : Int) < (word.size : Int) := by omega
          go_wp2_with fail
          go_ret
          exact ⟨rfl, HBS.out⟩
        · have j3 : ¬ (20 : Int) < (word.size : Int) := by omega
          have hnn : ∀ b ∈ note.data.toList, b ≠ (10 : UInt8) := by
            have hge := Lib.indexByte_ge note.data.toList 10
            have hr := (note_idx note.data.toList).1 (by omega)
            intro b hb
            have := Lx.mem_take_run Lx.note note.data.toList b (by rw [hr, List.take_length]; exact hb)
            intro e
            rw [e] at this
            revert this
            decide
          have H30 := Lib.hid (And.intro h1 (And.intro h2 (And.intro h3 hnn)))
          clear h1 h2 h3 hnn
          go_wp2_with fail
          clear j1 j2 j3 hi
          go_loopw [7, 40] (fun st iv wr => ∃ (k : Nat) (segs : List (List UInt8)), k ≤ l1.length ∧ iv = .int .i64 (k : Int) ∧ st = .string ⟨segs.flatten.toArray⟩ ∧ (∀ s ∈ segs, Sc.gapOk s) ∧ segs.flatten.length ≤ 32 * k ∧ Below w1.heap.size w1 wr) (fun _ iv _ => l1.length - (intOf iv).toNat)
          case atStart => exact ⟨0, [], by omega, rfl, rfl, (fun s hs => by cases hs), by simp, Below.refl _ _⟩
          case round =>
            obtain ⟨k, segs, hk, rfl, rfl, hsg, hln, BB⟩ := hrel
            have h30 := H30.out
            have HSG := Lib.hid (And.intro hsg hln)
            have HB1 := Lib.hid BB
            have HBZ := Lib.hid (Below.trans HBS.out (BB.mono HBS.out.size))
            obtain ⟨S, hS⟩ : ∃ S : ByteArray, S = ⟨segs.flatten.toArray⟩ := ⟨_, rfl⟩
            rw [← hS]
            have hsz : S.size ≤ 32 * k := by rw [hS]; show segs.flatten.toArray.size ≤ _; rw [List.size_toArray]; exact hln
            have HS := Lib.hid hS
            clear BB hsg hln hS
            by_cases hlt : k < l1.length
            · have i0 : (0 : Int) ≤ (k : Int) := by omega
              have i1 : (k : Int) < (l1.length : Int) := by omega
              have e9 : IntKind.i64.wrap ((k : Int) + 1) = (k : Int) + 1 := by rw [IntKind.wrap_i64]; omega
              obtain ⟨b, off, rfl, hcc⟩ : ∃ b off, a1 = some ⟨b, off, none⟩ ∧ ∀ i, i < l1.length → w.cell? ⟨b, off + i, none⟩ = some (.int .u8 (l1.getD i 0)) := by
                obtain ⟨p, c, e, h⟩ := HE1.out.1
                cases e
                rcases h with h | h
                · rw [h] at hlt; simp at hlt
                · exact h
              have c0 := cell_then (hcc k hlt) HBZ.out
              have hbd := HE1.out.2 _ (getD_mem (d := 0) hlt)
              generalize l1.getD k 0 = q at c0 hbd
              have x1 : 1 + note.size ≤ 9223372036854775807 := by omega
              have x2 : 1 + note.size + 1 ≤ 9223372036854775807 := by omega
              have x3 : S.size + (1 + note.size + 1) ≤ 9223372036854775807 := by omega
              have x4 : S.size + 1 ≤ 9223372036854775807 := by omega
              have HLT := Lib.hid (And.intro hlt hsz)
              clear hlt hcc h30 hk hsz
              have hm : q % 3 = 0 ∨ q % 3 = 1 ∨ q % 3 = 2 := by omega
              rcases hm with hm | hm | hm
              all_goals
                have hm' : q.tmod 3 = q % 3 := Int.tmod_eq_emod_of_nonneg (by omega)
                go_wp2_with fail
              all_goals
                have hl1 := HLT.out
                have hg1 := HSG.out
                have hnz : note.data.toList.length ≤ 30 := by have := H30.out.2.1; have := size_data note; omega
              · refine ⟨⟨k + 1, segs ++ [[32]], by omega, by simp, ?_, fun s hs => ?_, ?_, below_alloc HB1.out _⟩, by simp [intOf]; omega⟩
                · rw [HS.out]
                  refine congrArg Value.string ?_
                  apply ByteArray.ext
                  simp
                · rcases List.mem_append.1 hs with hs | hs
                  · exact hg1.1 s hs
                  · exact .inl (List.mem_singleton.1 hs)
                · simp
                  have := hg1.2
                  simp at this
                  omega
              · refine ⟨⟨k + 1, segs ++ [[10]], by omega, by simp, ?_, fun s hs => ?_, ?_, below_alloc HB1.out _⟩, by simp [intOf]; omega⟩
                · rw [HS.out]
                  refine congrArg Value.string ?_
                  apply ByteArray.ext
                  simp
                · rcases List.mem_append.1 hs with hs | hs
                  · exact hg1.1 s hs
                  · exact .inr (.inl (List.mem_singleton.1 hs))
                · simp
                  have := hg1.2
                  simp at this
                  omega
              · refine ⟨⟨k + 1, segs ++ [35 :: (note.data.toList ++ [10])], by omega, by simp, ?_, fun s hs => ?_, ?_, below_alloc HB1.out _⟩, by simp [intOf]; omega⟩
                · rw [HS.out]
                  refine congrArg Value.string ?_
                  apply ByteArray.ext
                  simp
                · rcases List.mem_append.1 hs with hs | hs
                  · exact hg1.1 s hs
                  · exact .inr (.inr ⟨_, List.mem_singleton.1 hs, H30.out.2.2.2⟩)
                · have := hg1.2
                  rw [List.flatten_append, List.length_append]
                  have e : [35 :: (note.data.toList ++ [10])].flatten.length = note.data.toList.length + 2 := by simp
                  rw [e]
                  omega
            · have i1 : ¬ (k : Int) < (l1.length : Int) := by omega
              have HLN := Lib.hid (show segs.flatten.length ≤ 960 by have := HSG.out.2; omega)
              have HPQ := Lib.hid (pparse_any S segs.flatten (by rw [HS.out]) wr (HM.out.below HBZ.out))
              have HPP := Lib.hid (Sc.parse_gaps Dy.parse segs HSG.out.1 (by have := HLN.out; omega))
              clear hlt hk h30
              go_wp2_with fail
              refine HPQ.out.mono ?_
              rintro e2 w2' ⟨hr2, hb2⟩
              rw [HPP.out] at hr2
              obtain ⟨v, vals, rfl, how2, hv2, _⟩ : ∃ (v : Value) (vals : List (Sc.Op × Value × Value)), e2 = .returned (.tuple #[v, .int .i64 0, .int .i64 0]) ∧ w2'.ownsRow wr.heap.size 48 8 v vals.length (vals.flatMap opE) ∧ vals.map (·.1) = [] ∧ ∀ x ∈ vals, okP w2' x := hr2
              obtain rfl : vals = [] := by simpa using hv2
              obtain ⟨p2, c2, rfl⟩ := own_slc how2
              have HB2 := Lib.hid (below_then HBZ.out hb2)
              clear how2 hv2 hb2
              have hcv := Lib.run_convert_string_bytes (P := Tryz.prog) w2' 9 22 5 word Tryz.underlying9 Tryz.underlying22 Tryz.underlying5
              have hwc := fun j hj => Lib.bytesWorld_cell w2' 5 word j hj
              have hwb : Below w2'.heap.size w2' (Lib.bytesWorld w2' 5 word) := ⟨rfl, rfl, rfl, by rw [Lib.bytesWorld_size]; omega, fun k hk => Lib.bytesWorld_at_old w2' _ _ k hk⟩
              have HWC := Lib.hid (And.intro hwc (below_then HB2.out hwb))
              clear hwc hwb
              go_wp2_with fail
              clear hcv
              obtain ⟨wB, hwB⟩ : ∃ x, x = Lib.bytesWorld w2' 5 word := ⟨_, rfl⟩
              rw [← hwB]
              have HWC : Hid ((∀ j, j < word.size → wB.cell? ⟨w2'.heap.size, j, none⟩ = some (.int .u8 (word.data.toList.getD j 0).toNat)) ∧ Below w.heap.size w wB) := Lib.hid (by rw [hwB]; exact HWC.out)
              clear hwB
              generalize w2'.heap.size = gB at *
              have h3 := H30.out.2.2.1
              have HW3 := Lib.hid h3
              clear h3
              go_loopw [13, 64] (fun xv iv wr => ∃ (j : Nat) (x : List UInt8), j ≤ word.size ∧ iv = .int .i64 (j : Int) ∧ xv = .string ⟨(120 :: x).toArray⟩ ∧ x.length = j ∧ (∀ b ∈ x, Lx.low b = true) ∧ wr = wB) (fun _ iv _ => word.size - (intOf iv).toNat)
              case atStart => exact ⟨0, [], by omega, rfl, rfl, rfl, (fun b hb => by cases hb), rfl⟩
              case round =>
                obtain ⟨j, x, hj, rfl, rfl, hxl, hxlow, rfl⟩ := hrel
                have HX := Lib.hid (And.intro hxl hxlow)
                clear hxlow
                by_cases hlt : j < word.size
                · have i0 : (0 : Int) ≤ (j : Int) := by omega
                  have i2 : (j : Int) < (word.size : Int) := by omega
                  have e9 : IntKind.i64.wrap ((j : Int) + 1) = (j : Int) + 1 := by have := HW3.out; rw [IntKind.wrap_i64]; omega
                  have cw := HWC.out.1 j hlt
                  have hq256 : (word.data.toList.getD j 0).toNat < 256 := UInt8.toNat_lt _
                  generalize (word.data.toList.getD j 0).toNat = q at cw hq256
                  obtain ⟨r, hr⟩ : ∃ r, r = q % 26 := ⟨_, rfl⟩
                  have hr26 : r < 26 := by omega
                  have e1 : (q : Int) % 26 = (r : Int) := by omega
                  have e2 : (q : Int).tmod 26 = (r : Int) := by rw [Int.tmod_eq_emod_of_nonneg (by omega)]; exact e1
                  obtain ⟨X, hX⟩ : ∃ X : ByteArray, X = ⟨(120 :: x).toArray⟩ := ⟨_, rfl⟩
                  rw [← hX]
                  have hXs : X.size = j + 1 := by rw [hX]; show (120 :: x).toArray.size = _; rw [List.size_toArray, List.length_cons, hxl]
                  have x1 : X.size + 1 ≤ 9223372036854775807 := by have := HW3.out; omega
                  have HXX := Lib.hid (And.intro hX (And.intro hlt hr26))
                  have hcr := conv_rune r hr26 wr
                  clear hX hr hlt hxl hj
                  go_wp2_with fail
                  have hx := HX.out
                  have hxx := HXX.out
                  refine ⟨⟨j + 1, x ++ [97 + UInt8.ofNat r], by omega, by simp, ?_, by rw [List.length_append]; simp; omega, fun c hc => ?_, trivial⟩, by simp [intOf]; omega⟩
                  · rw [hxx.1]
                    refine congrArg Value.string ?_
                    apply ByteArray.ext
                    simp
                  · rcases List.mem_append.1 hc with hc | hc
                    · exact hx.2 c hc
                    · rw [List.mem_singleton.1 hc]
                      exact rune_low r hxx.2.2
                · have i2 : ¬ (j : Int) < (word.size : Int) := by omega
                  obtain ⟨X, hX⟩ : ∃ X : ByteArray, X = ⟨(120 :: x).toArray⟩ := ⟨_, rfl⟩
                  rw [← hX]
                  have hXs : X.size = x.length + 1 := by rw [hX]; show (120 :: x).toArray.size = _; rw [List.size_toArray, List.length_cons]
                  have hSs : S.size = segs.flatten.length := by rw [HS.out]; show segs.flatten.toArray.size = _; rw [List.size_toArray]
                  have h20 := HW3.out
                  have h960 := HLN.out
                  have x1 : S.size + X.size ≤ 9223372036854775807 := by omega
                  have hpp := Sc.parse_gaps_word Dy.parse segs HSG.out.1 x HX.out.2 (by omega)
                  have hpq := pparse_any (S ++ X) (segs.flatten ++ 120 :: x) (by rw [HS.out, hX]; simp) wr (HM.out.below HWC.out.2)
                  rw [hpp] at hpq
                  have HPQ2 := Lib.hid hpq
                  have HSS := Lib.hid hSs
                  clear hX hXs hSs h20 h960 hpp hpq hlt hxl hj
                  go_wp2_with fail
                  refine HPQ2.out.mono ?_
                  rintro e5 w5' ⟨hr5, hb5⟩
                  have he : e5 = .returned (.tuple #[.slice none 0 0, .int .i64 ((segs.flatten.length : Nat) : Int), .int .i64 ((17 : Nat) : Int)]) := hr5
                  rw [he]
                  have HB5 := Lib.hid (below_then HWC.out.2 hb5)
                  have hz : ((segs.flatten.length : Nat) : Int) = (S.size : Int) := by rw [HSS.out]
                  rw [hz]
                  clear hr5 he hb5 hz
                  go_wp2_with fail
                  go_ret
                  exact ⟨rfl, HB5.out⟩
end Go.Proofs.YtbhjkddjgikaiaaGreatDoor

namespace Go.Proofs.YtbhjkddjgikaiaaGreatDoor
set_option linter.unusedVariables false
set_option linter.unusedSimpArgs false
set_option autoImplicit false
namespace Sc
open Lx
section
variable (pd : List UInt8 → Option Int) (dt : Int → List UInt8) (dr : Int → Prop)
/-- an op's text, a note and line feeds about its sign -/
def textN (n : List UInt8) (o : Op) : List UInt8 := word o.kind ++ (body dt o ++ (32 :: 35 :: (n ++ [10, 59, 10, 10])))
theorem body_stop (o : Op) (m : List UInt8) : stop (body dt o ++ (32 :: m)) := by
  unfold body
  by_cases h1 : o.kind = 1
  · rw [if_pos h1]; exact ⟨rfl, rfl⟩
  · by_cases h4 : o.kind = 4
    · rw [if_neg h1, if_pos h4]; exact ⟨rfl, rfl⟩
    · by_cases h7 : o.kind = 7
      · rw [if_neg h1, if_neg h4, if_pos h7]
        rcases o.starts with _ | ⟨d, r⟩ <;> exact ⟨rfl, rfl⟩
      · rw [if_neg h1, if_neg h4, if_neg h7]; exact ⟨rfl, rfl⟩
theorem split_textN (hdd : DayT pd dt dr) (n : List UInt8) (hn : ∀ b ∈ n, b ≠ (10 : UInt8)) (o : Op) (ho : o.ok dr) (m : List UInt8) (i : Nat) :
    ∃ ts j, ts.map Tk.bare = toks dt o ∧ (hd ts).pos = i ∧ j = i + (textN dt n o).length ∧ split pd (textN dt n o ++ m) i = prep ts (split pd m j) := by
  have hb := lex_body pd dt dr hdd o ho
  have e0 : textN dt n o ++ m = word o.kind ++ (body dt o ++ (32 :: ((35 :: (n ++ [10])) ++ (59 :: 10 :: 10 :: m)))) := by simp [textN]
  have hw := (isT_word pd _ (word_ne o.kind ho.kind) (word_low o.kind)).split pd (body dt o ++ (32 :: ((35 :: (n ++ [10])) ++ (59 :: 10 :: 10 :: m)))) i (body_stop dt o _)
  obtain ⟨ts, h1, h2⟩ := hb.1 (32 :: ((35 :: (n ++ [10])) ++ (59 :: 10 :: 10 :: m))) (i + (word o.kind).length) (stop_cons 32 (by decide) _)
  rw [e0, hw, h2, split_blank pd 32 _ _ (.inl rfl), split_gap pd _ (.inr (.inr ⟨n, rfl, hn⟩)), split_sign pd 59 (.inr rfl), split_blank pd 10 _ _ (.inr rfl), split_blank pd 10 _ _ (.inr rfl), consE_prep, consE_prep, prep_prep, prep_prep]
  refine ⟨_, _, ?_, ?_, ?_, rfl⟩
  · rw [toks_body, List.map_append, List.map_append, h1]
    rfl
  · rfl
  · simp [textN]
    omega
theorem parse_opsN (hd' : DayT pd dt dr) (n0 : List UInt8) (hn0 : ∀ b ∈ n0, b ≠ (10 : UInt8)) : ∀ (ops : List Op) (f n i : Nat), (∀ o ∈ ops, o.ok dr ∧ o.may) → n + ops.length ≤ 100 → ops.length < f →
    ∃ ts r, split pd (ops.flatMap (textN dt n0)) i = .ok ts ∧ parseOf f n ts = .ok r ∧ r.map Op.bare = ops.map Op.bare ∧ ∀ o ∈ r, o.pos ≤ i + (ops.flatMap (textN dt n0)).length
  | _, 0, _, _, _, _, h => by omega
  | [], f + 1, n, i, _, _, _ => ⟨[tk0.put i], [], by rw [List.flatMap_nil, split_nil], rfl, rfl, fun o ho => by cases ho⟩
  | o :: r, f + 1, n, i, ho, hn, hf => by
    obtain ⟨ts, j, h1, hp0, hj, h3⟩ := split_textN pd dt dr hd' n0 hn0 o (ho o (by simp)).1 (r.flatMap (textN dt n0)) i
    obtain ⟨us, r', k1, k2, k3, k4⟩ := parse_opsN hd' n0 hn0 r f (n + 1) j (fun x hx => ho x (by simp [hx])) (by simp at hn; omega) (by simpa using hf)
    refine ⟨ts ++ us, { o with pos := (hd (ts ++ us)).pos } :: r', ?_, ?_, ?_, ?_⟩
    · rw [List.flatMap_cons, h3, k1]; rfl
    · have hts : hd (ts ++ us) = hd ts := by
        rcases ts with _ | ⟨t, r2⟩
        · rw [toks_body] at h1; simp at h1
        · rfl
      have hp := parse_op dt o (ho o (by simp)).2 f n (by simp at hn; omega) ts us h1
      rw [hp, k2, hts]
    · rw [List.map_cons, List.map_cons, k3]
      rfl
    · have hts : hd (ts ++ us) = hd ts := by
        rcases ts with _ | ⟨t, r2⟩
        · rw [toks_body] at h1; simp at h1
        · rfl
      intro x hx
      rw [List.flatMap_cons, List.length_append]
      rcases List.mem_cons.1 hx with rfl | hx
      · show (hd (ts ++ us)).pos ≤ _
        rw [hts, hp0]
        omega
      · have := k4 x hx
        omega
theorem parse_notes (hd' : DayT pd dt dr) (n0 : List UInt8) (hn0 : ∀ b ∈ n0, b ≠ (10 : UInt8)) (ops : List Op) (ho : ∀ o ∈ ops, o.ok dr ∧ o.may) (hn : ops.length ≤ 100) (hl : (35 :: (n0 ++ [10]) ++ ops.flatMap (textN dt n0)).length ≤ 65536) :
    ∃ r, parse pd (35 :: (n0 ++ [10]) ++ ops.flatMap (textN dt n0)) = .ok r ∧ r.map Op.bare = ops.map Op.bare ∧ ∀ o ∈ r, o.pos ≤ 65536 := by
  obtain ⟨ts, r, h1, h2, h3, h4⟩ := parse_opsN pd dt dr hd' n0 hn0 ops 101 0 (0 + (35 :: (n0 ++ [10])).length) ho (by omega) (by omega)
  refine ⟨r, ?_, h3, fun o ho => ?_⟩
  · unfold parse
    rw [if_neg (by omega), split_gap pd _ (.inr (.inr ⟨n0, rfl, hn0⟩)), h1]
    exact h2
  · have := h4 o ho
    rw [List.length_append] at hl
    omega
end
end Sc
end Go.Proofs.YtbhjkddjgikaiaaGreatDoor

namespace Go.Proofs.YtbhjkddjgikaiaaGreatDoor
set_option linter.unusedVariables false
set_option linter.unusedSimpArgs false
namespace Sc
/-- no end, no line in it -/
def cl (x : List UInt8) : Prop := ∀ b ∈ x, b ≠ 59 ∧ b ≠ 10
theorem cl_app {x y : List UInt8} (h : cl x) (k : cl y) : cl (x ++ y) := fun b hb => by
  rcases List.mem_append.1 hb with hb | hb
  · exact h b hb
  · exact k b hb
theorem cl_cons {c : UInt8} {x : List UInt8} (h : c ≠ 59 ∧ c ≠ 10) (k : cl x) : cl (c :: x) := fun b hb => by
  rcases List.mem_cons.1 hb with rfl | hb
  · exact h
  · exact k b hb
theorem cl_nil : cl [] := fun b hb => by cases hb
theorem cl_flat {α : Type} (f : α → List UInt8) (l : List α) (h : ∀ x ∈ l, cl (f x)) : cl (l.flatMap f) := fun b hb => by
  obtain ⟨x, hx, hb⟩ := List.mem_flatMap.1 hb
  exact h x hx b hb
theorem dig_ne {b : UInt8} (h : 48 ≤ b.toNat ∧ b.toNat ≤ 57) : b ≠ 59 ∧ b ≠ 10 := ⟨fun e => by rw [e] at h; exact absurd h (by decide), fun e => by rw [e] at h; exact absurd h (by decide)⟩
theorem low_ne : ∀ b : UInt8, Lx.low b = true → b ≠ 59 ∧ b ≠ 10 := fun b h => ⟨fun e => by rw [e] at h; exact absurd h (by decide), fun e => by rw [e] at h; exact absurd h (by decide)⟩
theorem cl_dec (n : Nat) : cl (dec n) := fun b hb => dig_ne (dec_dig n b hb)
theorem cl_word (k : Nat) : cl (word k) := fun b hb => low_ne b (word_low k b hb)
theorem cl_link (k : Nat) : cl (link k) := fun b hb => low_ne b (link_low k b hb)
theorem sp_ne : (32 : UInt8) ≠ 59 ∧ (32 : UInt8) ≠ 10 := by decide
theorem cl_part (p : Nat × Nat) : cl (part p) := cl_cons sp_ne (cl_app (cl_dec _) (cl_cons sp_ne (cl_dec _)))
theorem cl_parts (l : List (Nat × Nat)) : cl (partsT l) := by
  rcases l with _ | ⟨p, r⟩
  · exact cl_nil
  · exact cl_app (cl_part p) (cl_flat _ _ fun q _ => cl_cons (by decide) (cl_part q))
theorem cl_day (n : Int) : cl (Dy.text n) := by
  by_cases h : Dy.inY n
  · obtain ⟨y, a, b, c, d⟩ := Dy.year_ex n h
    rw [Dy.text_year n y ⟨a, b⟩ c d]
    obtain ⟨a', b', c', e, _⟩ := Dy.txt_nat n y ⟨a, b⟩ c d
    rw [e]
    have hp : ∀ n size, cl (padL ((n : Nat) : Int) size) := fun n size b hb => dig_ne (Dy.pad_dig n size b hb)
    have h45 : cl [45] := cl_cons (by decide) cl_nil
    exact cl_app (cl_app (cl_app (cl_app (hp _ _) h45) (hp _ _)) h45) (hp _ _)
  · unfold Dy.text
    rw [dif_neg]
    · exact cl_nil
    · rintro ⟨y, a, b, c, d⟩
      have h1 := ahead_bd y ⟨a, by omega⟩
      have h2 := ahead_bd (y + 1) ⟨by omega, by omega⟩
      unfold Dy.inY at h
      omega
theorem cl_body (o : Op) (hn : cl o.name) : cl (word o.kind ++ body Dy.text o) := by
  refine cl_app (cl_word _) ?_
  unfold body
  split
  · exact cl_cons sp_ne (cl_app (cl_dec _) (cl_app (cl_cons (by decide) (cl_cons (by decide) cl_nil)) (cl_app hn (cl_cons (by decide) cl_nil))))
  · split
    · exact cl_cons sp_ne (cl_app (cl_dec _) (cl_cons sp_ne (cl_app (cl_link _) (cl_parts _))))
    · split
      · exact cl_app (cl_flat _ _ fun d _ => cl_cons sp_ne (cl_day d)) (cl_cons sp_ne (cl_app (cl_link _) (cl_cons sp_ne (cl_day _))))
      · exact cl_cons sp_ne (cl_app (cl_dec _) (cl_cons sp_ne (cl_app (cl_link _) (cl_cons sp_ne (cl_dec _)))))
theorem cl_name6 (n : Nat) : cl (name6 n) := by
  have h : ∀ x ∈ names6, ∀ b ∈ x, b ≠ 59 ∧ b ≠ 10 := by decide
  exact h _ (name6_mem n)
theorem raw_cl (x : O) : cl (raw x).name := by
  unfold raw
  split
  · exact cl_name6 _
  · split
    · exact cl_nil
    · split
      · exact cl_nil
      · split
        · exact cl_nil
        · exact cl_nil
end Sc
end Go.Proofs.YtbhjkddjgikaiaaGreatDoor
