/-
  Own texts, several in one (Pair14, RawP, Law14c).
-/
import Derived.Test.YtbhjkddjgikaiaaGreatDoorMrg37
import Derived.Test.YtbhjkddjgikaiaaGreatDoorMrg40
import Derived.Test.YtbhjkddjgikaiaaGreatDoorMrg36
import Derived.Test.YtbhjkddjgikaiaaGreatDoorMrg25
import Derived.Test.YtbhjkddjgikaiaaGreatDoorMrg34
import Derived.Test.YtbhjkddjgikaiaaGreatDoorMrg30
import Derived.RegionTactic
namespace Go.Proofs.YtbhjkddjgikaiaaGreatDoor
open Go.RowKit
set_option linter.unusedVariables false
set_option linter.unusedSimpArgs false
/-- what a parser's answer says of a text -/
def PO (w : World) (l : List UInt8) (p : Option Addr) (n c : Nat) (a e : Int) : Prop :=
  (∃ pp cc : Nat, Sc.parse Dy.parse l = .error (pp, cc) ∧ p = none ∧ n = 0 ∧ c = 0 ∧ a = (pp : Int) ∧ e = (cc : Int)) ∨
  (∃ (ops : List Sc.Op) (vals : List (Sc.Op × Value × Value)), Sc.parse Dy.parse l = .ok ops ∧ vals.map (·.1) = ops ∧ n = vals.length ∧ a = 0 ∧ e = 0 ∧ ElsAt opE 8 opE0 w p vals ∧ ∀ x ∈ vals, okP w x)
theorem parse_out {B : Nat} {l : List UInt8} {e : Ending} {w : World} (h : parseR B (Sc.parse Dy.parse l) e w) : ∃ p n c a er, e = .returned (.tuple #[.slice p n c, .int .i64 a, .int .i64 er]) ∧ PO w l p n c a er := by
  rcases hp : Sc.parse Dy.parse l with ⟨pp, cc⟩ | ops
  · rw [hp] at h
    exact ⟨none, 0, 0, (pp : Int), (cc : Int), h, .inl ⟨pp, cc, hp, rfl, rfl, rfl, rfl, rfl⟩⟩
  · rw [hp] at h
    obtain ⟨v, vals, he, how, hv, hok⟩ : ∃ (v : Value) (vals : List (Sc.Op × Value × Value)), e = .returned (.tuple #[v, .int .i64 0, .int .i64 0]) ∧ w.ownsRow B 48 8 v vals.length (vals.flatMap opE) ∧ vals.map (·.1) = ops ∧ ∀ x ∈ vals, okP w x := h
    obtain ⟨_, p, c, rfl, hE⟩ := els_ownG opE 8 opE0 (fun _ => rfl) (by omega) how
    exact ⟨p, vals.length, c, 0, 0, he, .inr ⟨ops, vals, hp, hv, rfl, rfl, rfl, hE, hok⟩⟩
theorem PO.below {w w' : World} {l : List UInt8} {p : Option Addr} {n c : Nat} {a e : Int} (h : PO w l p n c a e) (hb : Below w.heap.size w w') : PO w' l p n c a e := by
  rcases h with h | ⟨ops, vals, h1, h2, h3, h4, h5, h6, h7⟩
  · exact .inl h
  · exact .inr ⟨ops, vals, h1, h2, h3, h4, h5, h6.below hb, fun x hx => okP_only (h7 x hx) (Only.of_below (S := fun _ => False) hb) (fun _ _ h => h)⟩
theorem pair14 {w : World} {l : List UInt8} {p1 p2 : Option Addr} {n1 n2 c1 c2 : Nat} {a1 a2 e1 e2 : Int} (h1 : PO w l p1 n1 c1 a1 e1) (h2 : PO w l p2 n2 c2 a2 e2) : n2 = n1 ∧ a2 = a1 ∧ e2 = e1 ∧
    Calls Tryz.prog 19 #[.slice p1 n1 c1, .slice p2 n2 c2] w fun e w' => e = .returned (.bool true) ∧ Below w.heap.size w w' := by
  rcases h1 with ⟨pp, cc, hp, rfl, rfl, rfl, rfl, rfl⟩ | ⟨ops, vals, hp, hv, rfl, rfl, rfl, hE, hok⟩
  · rcases h2 with ⟨pp2, cc2, hp2, rfl, rfl, rfl, rfl, rfl⟩ | ⟨ops, vals, hp2, _⟩
    · rw [hp] at hp2
      simp only [Except.error.injEq, Prod.mk.injEq] at hp2
      obtain ⟨rfl, rfl⟩ := hp2
      exact ⟨rfl, rfl, rfl, same14 none none 0 0 [] [] w (.inl rfl) (.inl rfl) (fun e he => by cases he) (fun e he => by cases he) (by simp) rfl (fun e he => by cases he)⟩
    · rw [hp] at hp2; cases hp2
  · rcases h2 with ⟨pp2, cc2, hp2, _⟩ | ⟨ops2, vals2, hp2, hv2, rfl, rfl, rfl, hE2, hok2⟩
    · rw [hp] at hp2; cases hp2
    · rw [hp] at hp2
      obtain rfl := Except.ok.inj hp2
      have hbd := Sc.parse_bd hp
      have hl1 : vals.length = ops.length := by rw [← hv, List.length_map]
      have hl2 : vals2.length = ops.length := by rw [← hv2, List.length_map]
      exact ⟨by omega, rfl, rfl, same14 p1 p2 c1 c2 vals vals2 w hE hE2 hok hok2 (by have := hbd.2; omega) (hv.trans hv2.symm) (fun e he => hbd.1 e.1 (by rw [← hv]; exact List.mem_map_of_mem he))⟩
end Go.Proofs.YtbhjkddjgikaiaaGreatDoor

namespace Go.Proofs.YtbhjkddjgikaiaaGreatDoor
set_option linter.unusedVariables false
set_option linter.unusedSimpArgs false
namespace Sc
theorem name6_quo (n : Nat) : ∀ b ∈ name6 n, Lx.quo b = true := by
  have h : ∀ x ∈ names6, ∀ b ∈ x, Lx.quo b = true := by decide
  exact h _ (name6_mem n)
theorem day_inY (first : Int) (long : List Int) (hf : -32768 ≤ first ∧ first ≤ 32767) (k : Nat) (hk : k ≤ 12) : Dy.inY (dayAt first long k) ∧ Dy.inY (dayAt first long k + 31) := by
  have := dayAt_bd first long hf k
  unfold Dy.inY
  omega
theorem raw_ok (x : O) (hx : x.ok) : (raw x).ok Dy.inY := by
  have ha := hx.a
  have hb := hx.b
  have none : ∀ b ∈ ([] : List UInt8), Lx.quo b = true := fun b h => (by cases h)
  have nop : ∀ p ∈ ([] : List (Nat × Nat)), p.1 ≤ 9999999 ∧ p.2 ≤ 9999999 := fun p h => (by cases h)
  have nos : ∀ d ∈ ([] : List Int), Dy.inY d := fun d h => (by cases h)
  unfold raw
  split
  · exact ⟨by show 1 < 8; omega, by show 1 + x.a ≤ _; omega, by show 0 ≤ _; omega, name6_quo _, nop, nos, fun h => (by cases h)⟩
  · split
    · refine ⟨by show 4 < 8; omega, by show 1 + x.a ≤ _; omega, by show 0 ≤ _; omega, none, ?_, nos, fun h => (by cases h)⟩
      intro p hp
      have hp : p ∈ (1 + x.b, 1) :: (x.parts.take 7).map rawPt := hp
      rcases List.mem_cons.1 hp with rfl | hp
      · exact ⟨by show 1 + x.b ≤ _; omega, by show 1 ≤ _; omega⟩
      · obtain ⟨q, hq, rfl⟩ := List.mem_map.1 hp
        have := hx.parts q (List.mem_of_mem_take hq)
        exact ⟨by show 1 + q.1 ≤ _; omega, by show 1 + q.2 % 1000000 ≤ _; omega⟩
    · split
      · refine ⟨by show 7 < 8; omega, by show 0 ≤ _; omega, by show 0 ≤ _; omega, none, nop, ?_, fun _ => (day_inY _ _ hx.first _ (by omega)).2⟩
        intro d hd
        have hd : d ∈ (List.range (min x.long.length 12 + 1)).map (dayAt x.first x.long) := hd
        obtain ⟨k, hk, rfl⟩ := List.mem_map.1 hd
        have := List.mem_range.1 hk
        exact (day_inY _ _ hx.first k (by omega)).1
      · split
        · exact ⟨by show 2 < 8; omega, by show 1 + x.a ≤ _; omega, by show x.b ≤ _; omega, none, nop, nos, fun h => (by cases h)⟩
        · rename_i h1 h4 h7 h2
          exact ⟨by show x.kind % 8 < 8; omega, by show 1 + x.a ≤ _; omega, by show 1 + x.b ≤ _; omega, none, nop, nos, fun h => absurd h h7⟩
theorem raw_may (x : O) (hx : x.ok) : (raw x).may := by
  have ha := hx.a
  have hb := hx.b
  have hmost : ∀ k, k < 8 → 256 ≤ most k := by decide
  have hleast : ∀ k, k < 8 → least k ≤ 1 := by decide
  have m1 := hmost 1 (by omega)
  have m2 := hmost 2 (by omega)
  have m4 := hmost 4 (by omega)
  have l2 : least 2 = 0 := by decide
  unfold raw
  split
  · exact ⟨by show 1 < 8; omega, fun _ => by show 1 ≤ 1 + x.a ∧ ((1 + x.a : Nat) : Int) ≤ most 1; omega, fun _ h => absurd rfl h, fun h => (by cases h), fun h => (by cases h), fun _ => rfl, fun h => absurd rfl h, fun _ => rfl, fun _ => rfl, fun _ => rfl⟩
  · split
    · refine ⟨by show 4 < 8; omega, fun _ => by show 1 ≤ 1 + x.a ∧ ((1 + x.a : Nat) : Int) ≤ most 4; omega, fun _ _ h => absurd rfl h, fun _ => ⟨?_, ?_, ?_⟩, fun h => (by cases h), fun _ => rfl, fun _ => rfl, fun h => absurd rfl h, fun _ => rfl, fun _ => rfl⟩
      · show 0 < ((1 + x.b, 1) :: (x.parts.take 7).map rawPt).length
        rw [List.length_cons]
        omega
      · show ((1 + x.b, 1) :: (x.parts.take 7).map rawPt).length ≤ 8
        rw [List.length_cons, List.length_map, List.length_take]
        omega
      · intro p hp
        have hp : p ∈ (1 + x.b, 1) :: (x.parts.take 7).map rawPt := hp
        rcases List.mem_cons.1 hp with rfl | hp
        · show 1 ≤ 1 + x.b ∧ 1 + x.b ≤ 999999 ∧ 1 ≤ 1 ∧ 1 ≤ 1000000
          omega
        · obtain ⟨q, hq, rfl⟩ := List.mem_map.1 hp
          have := hx.parts q (List.mem_of_mem_take hq)
          show 1 ≤ 1 + q.1 ∧ 1 + q.1 ≤ 999999 ∧ 1 ≤ 1 + q.2 % 1000000 ∧ 1 + q.2 % 1000000 ≤ 1000000
          omega
    · split
      · exact ⟨by show 7 < 8; omega, fun h => absurd rfl h, fun h => absurd rfl h, fun h => (by cases h), fun _ => rfl, fun _ => rfl, fun _ => rfl, fun _ => rfl, fun h => absurd rfl h, fun h => absurd rfl h⟩
      · split
        · exact ⟨by show 2 < 8; omega, fun _ => by show 1 ≤ 1 + x.a ∧ ((1 + x.a : Nat) : Int) ≤ most 2; omega, fun _ _ _ => by show least 2 ≤ x.b ∧ (x.b : Int) ≤ most 2; omega, fun h => (by cases h), fun h => (by cases h), fun h => (by rcases h with h | h | h <;> cases h), fun _ => rfl, fun _ => rfl, fun _ => rfl, fun _ => rfl⟩
        · rename_i h1 h4 h7 h2
          have hk : x.kind % 8 < 8 := by omega
          have mk := hmost _ hk
          have lk := hleast _ hk
          exact ⟨hk, fun _ => by show 1 ≤ 1 + x.a ∧ ((1 + x.a : Nat) : Int) ≤ most (x.kind % 8); omega, fun _ _ _ => by show least (x.kind % 8) ≤ 1 + x.b ∧ ((1 + x.b : Nat) : Int) ≤ most (x.kind % 8); omega, fun h => absurd h h4, fun h => absurd h h7, fun h => (by rcases h with h | h | h; exact absurd h h7; exact absurd h h1; exact absurd h h4), fun _ => rfl, fun _ => rfl, fun _ => rfl, fun _ => rfl⟩
end Sc
end Go.Proofs.YtbhjkddjgikaiaaGreatDoor

namespace Go.Proofs.YtbhjkddjgikaiaaGreatDoor
open Go.RowKit
set_option linter.unusedVariables false
set_option linter.unusedSimpArgs false
theorem otext_len2 (o : Sc.Op) (ho : o.can) (h1 : o.name.length ≤ 30) (h2 : o.parts.length ≤ 8) (h3 : o.starts.length ≤ 13) : (Sc.text Dy.text o).length ≤ 3000 := by
  have hd : ∀ n, n ≤ 4294967295 → (Sc.dec n).length ≤ 20 := fun n hn => dec_len n (by omega)
  have hk := ho.kind
  have hw : ∀ k, k < 8 → (Sc.word k).length ≤ 8 := word_len
  have hl : ∀ k, k < 8 → (Sc.link k).length ≤ 8 := link_len
  have a := hd o.fr ho.fr
  have b := hd o.too ho.too
  have c := dtext_len o.fin
  have d := flat_days o.starts
  have hp : (Sc.partsT o.parts).length ≤ 1000 := by
    rcases h : o.parts with _ | ⟨p, r⟩
    · simp [Sc.partsT]
    · have hj := join_parts p r
      have hpl := prts_len (p :: r) (by rw [← h]; exact ho.parts.2.2)
      have e : (Lib.join ((p :: r).map prt) [44, 32]).length + 1 = (Sc.partsT (p :: r)).length := by rw [← hj]; rfl
      rw [h] at h2
      omega
  unfold Sc.text
  have w1 := hw 1 (by omega)
  have w4 := hw 4 (by omega)
  have w7 := hw 7 (by omega)
  have wk := hw o.kind hk
  have l4 := hl 4 (by omega)
  have l7 := hl 7 (by omega)
  have lk := hl o.kind hk
  repeat' split
  all_goals
    simp only [List.length_append, List.length_cons, List.length_nil]
    omega
/-- from a lower base on -/
theorem below_base14 {B B2 : Nat} {w w' : World} (h : Below B2 w w') (hb : B ≤ B2) : Below B w w' := ⟨h.os, h.tape, h.output, h.size, fun k hk => h.block k (by omega)⟩
theorem raw_small (x : Sc.O) : (Sc.raw x).name.length ≤ 30 ∧ (Sc.raw x).parts.length ≤ 8 ∧ (Sc.raw x).starts.length ≤ 13 := by
  unfold Sc.raw
  split
  · exact ⟨Sc.name6_len x.nm, by show 0 ≤ 8; omega, by show 0 ≤ 13; omega⟩
  · split
    · refine ⟨by show 0 ≤ 30; omega, ?_, by show 0 ≤ 13; omega⟩
      show ((1 + x.b, 1) :: (x.parts.take 7).map Sc.rawPt).length ≤ 8
      rw [List.length_cons, List.length_map, List.length_take]
      have := Nat.min_le_left 7 x.parts.length
      omega
    · split
      · refine ⟨by show 0 ≤ 30; omega, by show 0 ≤ 8; omega, ?_⟩
        show (Sc.mkStarts x.first x.long (min x.long.length 12)).length ≤ 13
        unfold Sc.mkStarts
        rw [List.length_map, List.length_range]
        have := Nat.min_le_right x.long.length 12
        omega
      · split
        · simp [Sc.raw2]
        · simp [Sc.raw0]
set_option maxHeartbeats 8000000 in
set_option maxRecDepth 100000 in
theorem parseSpoilt_law (a1 : Option Addr) (len1 cap1 : Nat) (l1 : List (Sc.O × Value × Value)) (at0 cut : Nat) (more : ByteArray) (w : World) (hM : Glb13 w) (hl1 : l1.length = len1)
    (hok1 : ∀ x ∈ l1, okO w x) (hE1 : ElsAt ovE 7 o0 w a1 l1) (hlm1 : len1 ≤ 9223372036854775807) (hat : at0 ≤ 65535) (hcut : cut ≤ 255) :
    Calls Tryz.prog 5 #[.slice a1 len1 cap1, .int .u16 (at0 : Int), .int .u8 (cut : Int), .string more] w fun e w' => e = .returned (.bool true) ∧ Below w.heap.size w w' := by
  subst hl1
  have HA := Lib.hid (awake14 w hM)
  have HE1 := Lib.hid hE1
  have HO1 := Lib.hid hok1
  have HM := Lib.hid hM
  have HAC := Lib.hid (And.intro hat hcut)
  clear hM hok1 hE1 hat hcut
  go_enter Tryz.func5, Tryz.ntmps5
  go_wp2_with fail
  refine HA.out.mono ?_
  rintro _ w1 ⟨rfl, hb1⟩
  have HBS := Lib.hid hb1
  clear hb1
  by_cases h1 : 20 < l1.length
  · have j1 : (20 : Int) < (l1.length : Int) := by omega
    go_wp2_with fail
    go_ret
    exact ⟨rfl, HBS.out⟩
  · have j1 : ¬ (20 : Int) < (l1.length : Int) := by omega
    by_cases h2 : 40 < more.size
    · have j2 : (40 : Int) < (more.size : Int) := by omega
      go_wp2_with fail
      go_ret
      exact ⟨rfl, HBS.out⟩
    · have j2 : ¬ (40 : Int) < (more.size : Int) := by omega
      have H30 := Lib.hid (And.intro h1 h2)
      clear h1 h2 hlm1
      go_wp2_with fail
      clear j1 j2
      go_loopw [9, 31] (fun st iv wr => ∃ (k : Nat) (S : ByteArray), k ≤ l1.length ∧ iv = .int .i64 (k : Int) ∧ st = .string S ∧ S.size ≤ 3001 * k ∧ Below w1.heap.size w1 wr) (fun _ iv _ => l1.length - (intOf iv).toNat)
      case atStart => exact ⟨0, ⟨#[]⟩, by omega, rfl, rfl, by decide, Below.refl _ _⟩
      case round =>
        obtain ⟨k, S, hk, rfl, rfl, hS, BB⟩ := hrel
        have h30 := H30.out
        have HSS := Lib.hid hS
        have HB1 := Lib.hid BB
        have HBZ := Lib.hid (Below.trans HBS.out (below_base14 BB HBS.out.size))
        clear BB hS
        by_cases hlt : k < l1.length
        · have i0 : (0 : Int) ≤ (k : Int) := by omega
          have i1 : (k : Int) < (l1.length : Int) := by omega
          obtain ⟨b, off, rfl, hcc⟩ : ∃ b off, a1 = some ⟨b, off, none⟩ ∧ ∀ i, i < l1.length → w.rangeAt b (off + i * 7) (ovE (l1.getD i o0)) := by
            rcases HE1.out with h | h
            · rw [h] at hlt; simp at hlt
            · exact h
          have ck := range_below (hcc k hlt) HBZ.out
          have hq := okO_below (HO1.out _ (getD_mem (d := o0) hlt)) HBZ.out
          generalize l1.getD k o0 = q at ck hq
          obtain ⟨x, vp, vl⟩ := q
          have hsm := raw_small x
          have htl := otext_len2 (Sc.raw x) (Sc.raw_can x hq.1) hsm.1 hsm.2.1 hsm.2.2
          have HRC := Lib.hid (Sc.raw_can x hq.1)
          have HQ := Lib.hid hq
          have HLT := Lib.hid hlt
          have e9 : IntKind.i64.wrap ((k : Int) + 1) = (k : Int) + 1 := by rw [IntKind.wrap_i64]; omega
          have c0 : wr.cell? ⟨b, off + k * 7, none⟩ = some (.int .u8 (x.kind : Int)) := ck 0 _ rfl
          have c1 : wr.cell? ⟨b, off + k * 7 + 1, none⟩ = some (.int .u8 (x.a : Int)) := ck 1 _ rfl
          have c2 : wr.cell? ⟨b, off + k * 7 + 2, none⟩ = some (.int .u8 (x.b : Int)) := ck 2 _ rfl
          have c3 : wr.cell? ⟨b, off + k * 7 + 3, none⟩ = some (.int .u8 (x.nm : Int)) := ck 3 _ rfl
          have c4 : wr.cell? ⟨b, off + k * 7 + 4, none⟩ = some vp := ck 4 _ rfl
          have c5 : wr.cell? ⟨b, off + k * 7 + 5, none⟩ = some (.int .i16 x.first) := ck 5 _ rfl
          have c6 : wr.cell? ⟨b, off + k * 7 + 6, none⟩ = some vl := ck 6 _ rfl
          obtain ⟨T, hT⟩ : ∃ T : ByteArray, T = ⟨(Sc.text Dy.text (Sc.raw x)).toArray⟩ := ⟨_, rfl⟩
          have htz : T.size ≤ 3000 := by rw [hT]; show (Sc.text Dy.text (Sc.raw x)).toArray.size ≤ 3000; rw [List.size_toArray]; exact htl
          have hSS := HSS.out
          have x1 : T.size + 1 ≤ 9223372036854775807 := by omega
          have x2 : S.size + (T.size + 1) ≤ 9223372036854775807 := by omega
          have HTZ := Lib.hid (And.intro hT htz)
          clear hlt hcc ck hq hsm htl hT htz hSS h30 hk
          obtain ⟨pp, np, cp, rfl⟩ : ∃ p n c, vp = .slice p n c := by obtain ⟨p, c, e, _⟩ := HQ.out.2.1; exact ⟨_, _, _, e⟩
          obtain ⟨ps, ns, cs, rfl⟩ : ∃ p n c, vl = .slice p n c := by obtain ⟨p, c, e, _⟩ := HQ.out.2.2; exact ⟨_, _, _, e⟩
          go_wp2_with fail
          have BA := below_alloc (Below.refl _ wr) (.cells (ov x (.slice pp np cp) (.slice ps ns cs)).toArray 38)
          have hqa := okO_below HQ.out BA
          refine (raw_any x HQ.out.1 _ _ (wr.alloc (.cells (ov x (.slice pp np cp) (.slice ps ns cs)).toArray 38)) hqa.2.1 hqa.2.2).mono ?_
          rintro _ w2' ⟨v1, v2, rfl, hp, hn, hf1, hf2, hb2⟩
          have B2 := below_then BA hb2
          go_wp2_with fail
          refine (ltext_any (Sc.raw x) v1 v2 HRC.out w2' hp hn (HM.out.below (below_then HBZ.out B2))).mono ?_
          rintro _ w3' ⟨rfl, hb3⟩
          rw [← HTZ.out.1]
          have HB3 := Lib.hid (below_then HB1.out (below_then B2 hb3))
          clear hp hn hf1 hf2 hb2 B2 hb3 BA hqa c0 c1 c2 c3 c4 c5 c6
          go_wp2_with fail
          refine ⟨⟨k + 1, S ++ (T ++ ⟨#[10]⟩), by have := HLT.out; omega, by simp, rfl, ?_, HB3.out⟩, by have := HLT.out; simp [intOf]; omega⟩
          rw [ByteArray.size_append, ByteArray.size_append]
          have h7 := HTZ.out.2
          have h8 := HSS.out
          have h9 : (⟨#[10]⟩ : ByteArray).size = 1 := rfl
          omega
        · have i1 : ¬ (k : Int) < (l1.length : Int) := by omega
          have HSZ := Lib.hid (show S.size ≤ 61000 by have := HSS.out; omega)
          clear hlt h30
          obtain ⟨K, hK⟩ : ∃ K : Nat, K = at0 % (S.size + 1) := ⟨_, rfl⟩
          have hKS : K ≤ S.size := by rw [hK]; have := Nat.mod_lt at0 (show 0 < S.size + 1 by omega); omega
          have e1 : (at0 : Int) % ((S.size : Int) + 1) = (K : Int) := by rw [hK]; rfl
          have e2 : ¬ (S.size : Int) + 1 = 0 := by omega
          have e3 : IntKind.i64.wrap ((S.size : Int) + 1) = (S.size : Int) + 1 := by have := HSZ.out; rw [IntKind.wrap_i64]; omega
          obtain ⟨d, hd⟩ : ∃ d : Nat, d = cut % 9 := ⟨_, rfl⟩
          have e4 : (cut : Int) % 9 = (d : Int) := by omega
          have e5 : IntKind.i64.wrap ((K : Int) + (d : Int)) = (K : Int) + (d : Int) := by have := HSZ.out; rw [IntKind.wrap_i64]; omega
          have k0 : (0 : Int) ≤ (K : Int) := by omega
          have k1 : (K : Int) ≤ (S.size : Int) := by omega
          have e6 : (at0 : Int).tmod ((S.size : Int) + 1) = (K : Int) := by rw [Int.tmod_eq_emod_of_nonneg (by omega)]; exact e1
          have hat := HAC.out.1
          have hcut := HAC.out.2
          have hm40 := H30.out.2
          have hsz := HSZ.out
          have f1 : (S.extract 0 K).size + more.size ≤ 9223372036854775807 := by rw [ByteArray.size_extract]; omega
          have f2 : min K S.size + more.size ≤ 9223372036854775807 := by omega
          have f3 : K + more.size ≤ 9223372036854775807 := by omega
          have f4 : K + more.size + (S.size - (min ((K : Int) + (d : Int)) (S.size : Int)).toNat) ≤ 9223372036854775807 := by omega
          clear hK hd hm40 hsz
          go_wp2_with fail
          go_region
          obtain ⟨Z, hZ⟩ : ∃ Z : ByteArray, Z = S.extract 0 K ++ more ++ S.extract (min ((K : Int) + (d : Int)) (S.size : Int)).toNat S.size := ⟨_, rfl⟩
          rw [← hZ]
          have hZs : Z.size ≤ 65536 := by
            rw [hZ, ByteArray.size_append, ByteArray.size_append, ByteArray.size_extract, ByteArray.size_extract]
            have hm40 := H30.out.2
            have hsz := HSZ.out
            omega
          obtain ⟨l, hl⟩ : ∃ l, l = Z.data.toList := ⟨_, rfl⟩
          have hzl : Z.size = l.length := by rw [hl]; exact size_data Z
          have HZL := Lib.hid (And.intro hl (show l.length ≤ 65536 by omega))
          have HBD := Lib.hid (Below.drew HBZ.out)
          clear hZ hZs hl hzl e1 e2 e3 e4 e5 e6 k0 k1 f1 f2 f3 f4 hat hcut
          go_wp2_with fail
          refine (pparse_any Z l HZL.out.1 wr.drew (HM.out.below HBD.out)).mono ?_
          rintro e2 w2' ⟨hr2, hb2⟩
          obtain ⟨p1, n1, c1, a1', er1, rfl, h1⟩ := parse_out hr2
          have H1 := Lib.hid h1
          have HB2' := Lib.hid (below_then HBD.out hb2)
          clear hr2 h1 hb2
          go_wp2_with fail
          refine (lparse_any Z l HZL.out.1 HZL.out.2 w2' (HM.out.below HB2'.out)).mono ?_
          rintro e3 w3' ⟨hr3, hb3⟩
          obtain ⟨p2, n2, c2, a2', er2, rfl, h2⟩ := parse_out hr3
          obtain ⟨rfl, rfl, rfl, hS⟩ := pair14 (H1.out.below hb3) h2
          have HS := Lib.hid hS
          have HB3' := Lib.hid (below_then HB2'.out hb3)
          clear hr3 h2 hS hb3
          go_wp2_with fail
          refine HS.out.mono ?_
          rintro _ w4' ⟨rfl, hb4⟩
          have HB4' := Lib.hid (below_then HB3'.out hb4)
          clear hb4
          go_wp2_with fail
          go_ret
          exact ⟨rfl, HB4'.out⟩
theorem parseSpoilt_int (a1 : Option Addr) (len1 cap1 : Nat) (l1 : List (Sc.O × Value × Value)) (at0 cut : Int) (more : ByteArray) (w : World) (hM : Glb13 w) (hl1 : l1.length = len1)
    (hok1 : ∀ x ∈ l1, okO w x) (hE1 : ElsAt ovE 7 o0 w a1 l1) (hlm1 : len1 ≤ 9223372036854775807) (hat : 0 ≤ at0 ∧ at0 ≤ 65535) (hcut : 0 ≤ cut ∧ cut ≤ 255) :
    Calls Tryz.prog 5 #[.slice a1 len1 cap1, .int .u16 at0, .int .u8 cut, .string more] w fun e w' => e = .returned (.bool true) ∧ Below w.heap.size w w' := by
  obtain ⟨n0, rfl⟩ := Int.eq_ofNat_of_zero_le hat.1
  obtain ⟨n1, rfl⟩ := Int.eq_ofNat_of_zero_le hcut.1
  exact parseSpoilt_law a1 len1 cap1 l1 n0 n1 more w hM hl1 hok1 hE1 hlm1 (by omega) (by omega)
end Go.Proofs.YtbhjkddjgikaiaaGreatDoor
