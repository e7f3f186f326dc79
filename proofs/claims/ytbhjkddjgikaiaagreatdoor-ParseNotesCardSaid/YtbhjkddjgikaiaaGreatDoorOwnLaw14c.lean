/-
  Own texts, several in one (Law14c, Law14d, NoneP).
-/
import Derived.Test.YtbhjkddjgikaiaaGreatDoorOwnLaid13n
import Derived.Test.YtbhjkddjgikaiaaGreatDoorMrg36
import Derived.Test.YtbhjkddjgikaiaaGreatDoorMrg34
import Derived.Test.YtbhjkddjgikaiaaGreatDoorMrg30
import Derived.RegionTactic
import Derived.Test.YtbhjkddjgikaiaaGreatDoorMrg31
namespace Go.Proofs.YtbhjkddjgikaiaaGreatDoor
open Go.RowKit
set_option linter.unusedVariables false
set_option linter.unusedSimpArgs false
theorem otext_len2 (o : Sc.Op) (ho : o.can) (h1 : o.name.length ≤ 30) (h2 : o.parts.length ≤ 8) (h3 : o.starts.length ≤ 13) : (Sc.text Dy.text o).length ≤ 3000 := by
  have hd : ∀ n, n ≤ 4294967295 → (Sc.dec n).length ≤ 20 := fun n hn => dec_len n (by omega)
  have hk := ho.kind
  have hw : ∀ k, k < 8 → (Sc.word k).length ≤ 8 := word_len
  have hl : ∀ k, k < 8 → (Sc.link k).length ≤ 8 := link_len
  have a := hd o.fr ho.fr
  have b := hd o.too ho.too
  have c := dtext_len o.fin
  have d := flat_days o.starts
  have hp : (Sc.partsT o.parts).length ≤ 1000 := by
    rcases h : o.parts with _ | ⟨p, r⟩
    · simp [Sc.partsT]
    · have hj := join_parts p r
      have hpl := prts_len (p :: r) (by rw [← h]; exact ho.parts.2.2)
      have e : (Lib.join ((p :: r).map prt) [44, 32]).length + 1 = (Sc.partsT (p :: r)).length := by rw [← hj]; rfl
      rw [h] at h2
      omega
  unfold Sc.text
  have w1 := hw 1 (by omega)
  have w4 := hw 4 (by omega)
  have w7 := hw 7 (by omega)
  have wk := hw o.kind hk
  have l4 := hl 4 (by omega)
  have l7 := hl 7 (by omega)
  have lk := hl o.kind hk
  repeat' split
  all_goals
    simp only [List.length_append, List.length_cons, List.length_nil]
    omega
/-- from a lower base on -/
theorem below_base14 {B B2 : Nat} {w w' : World} (h : Below B2 w w') (hb : B ≤ B2) : Below B w w' := ⟨h.os, h.tape, h.output, h.size, fun k hk => h.block k (by omega)⟩
theorem raw_small (x : Sc.O) : (Sc.raw x).name.length ≤ 30 ∧ (Sc.raw x).parts.length ≤ 8 ∧ (Sc.raw x).starts.length ≤ 13 := by
  unfold Sc.raw
  split
  · exact ⟨Sc.name6_len x.nm, by show 0 ≤ 8; omega, by show 0 ≤ 13; omega⟩
  · split
    · refine ⟨by show 0 ≤ 30; omega, ?_, by show 0 ≤ 13; omega⟩
      show ((1 + x.b, 1) :: (x.parts.take 7).map Sc.rawPt).length ≤ 8
      rw [List.length_cons, List.length_map, List.length_take]
      have := Nat.min_le_left 7 x.parts.length
      omega
    · split
      · refine ⟨by show 0 ≤ 30; omega, by show 0 ≤ 8; omega, ?_⟩
        show (Sc.mkStarts x.first x.long (min x.long.length 12)).length ≤ 13
        unfold Sc.mkStarts
        rw [List.length_map, List.length_range]
        have := Nat.min_le_right x.long.length 12
        omega
      · split
        · simp [Sc.raw2]
        · simp [Sc.raw0]
set_option maxHeartbeats 8000000 in
set_option maxRecDepth 100000 in
theorem parseSpoilt_law (a1 : Option Addr) (len1 cap1 : Nat) (l1 : List (Sc.O × Value × Value)) (at0 cut : Nat) (more : ByteArray) (w : World) (hM : Glb13 w) (hl1 : l1.length = len1)
    (hok1 : ∀ x ∈ l1, okO w x) (hE1 : ElsAt ovE 7 o0 w a1 l1) (hlm1 : len1 ≤ 9223372036854775807) (hat : at0 ≤ 65535) (hcut : cut ≤ 255) :
    Calls Tryz.prog 5 #[.slice a1 len1 cap1, .int .u16 (at0 : Int), .int .u8 (cut : Int), .string more] w fun e w' => e = .returned (.bool true) ∧ Below w.heap.size w w' := by
  subst hl1
  have HA := Lib.hid (awake14 w hM)
  have HE1 := Lib.hid hE1
  have HO1 := Lib.hid hok1
  have HM := Lib.hid hM
  have HAC := Lib.hid (And.intro hat hcut)
  clear hM hok1 hE1 hat hcut
  go_enter Tryz.func5, Tryz.ntmps5
  go_wp2_with fail
  refine HA.out.mono ?_
  rintro _ w1 ⟨rfl, hb1⟩
  have HBS := Lib.hid hb1
  clear hb1
  by_cases h1 : 20 < l1.length
  · have j1 : (20 : Int) < (l1.length : Int) := by omega
    go_wp2_with fail
    go_ret
    exact ⟨rfl, HBS.out⟩
  · have j1 : ¬ (20 : Int) < (l1.length : Int) := by omega
    by_cases h2 : 40 < more.size
    · have j2 : (40 : Int) < (more.size : Int) := by omega
      go_wp2_with fail
      go_ret
      exact ⟨rfl, HBS.out⟩
    · have j2 : ¬ (40 : Int) < (more.size : Int) := by omega
      have H30 := Lib.hid (And.intro h1 h2)
      clear h1 h2 hlm1
      go_wp2_with fail
      clear j1 j2
      go_loopw [9, 31] (fun st iv wr => ∃ (k : Nat) (S : ByteArray), k ≤ l1.length ∧ iv = .int .i64 (k : Int) ∧ st = .string S ∧ S.size ≤ 3001 * k ∧ Below w1.heap.size w1 wr) (fun _ iv _ => l1.length - (intOf iv).toNat)
      case atStart => exact ⟨0, ⟨#[]⟩, by omega, rfl, rfl, by decide, Below.refl _ _⟩
      case round =>
        obtain ⟨k, S, hk, rfl, rfl, hS, BB⟩ := hrel
        have h30 := H30.out
        have HSS := Lib.hid hS
        have HB1 := Lib.hid BB
        have HBZ := Lib.hid (Below.trans HBS.out (below_base14 BB HBS.out.size))
        clear BB hS
        by_cases hlt : k < l1.length
        · have i0 : (0 : Int) ≤ (k : Int) := by omega
          have i1 : (k : Int) < (l1.length : Int) := by omega
          obtain ⟨b, off, rfl, hcc⟩ : ∃ b off, a1 = some ⟨b, off, none⟩ ∧ ∀ i, i < l1.length → w.rangeAt b (off + i * 7) (ovE (l1.getD i o0)) := by
            rcases HE1.out with h | h
            · rw [h] at hlt; simp at hlt
            · exact h
          have ck := range_below (hcc k hlt) HBZ.out
          have hq := okO_below (HO1.out _ (getD_mem (d := o0) hlt)) HBZ.out
          generalize l1.getD k o0 = q at ck hq
          obtain ⟨x, vp, vl⟩ := q
          have hsm := raw_small x
          have htl := otext_len2 (Sc.raw x) (Sc.raw_can x hq.1) hsm.1 hsm.2.1 hsm.2.2
          have HRC := Lib.hid (Sc.raw_can x hq.1)
          have HQ := Lib.hid hq
          have HLT := Lib.hid hlt
          have e9 : IntKind.i64.wrap ((k : Int) + 1) = (k : Int) + 1 := by rw [IntKind.wrap_i64]; omega
          have c0 : wr.cell? ⟨b, off + k * 7, none⟩ = some (.int .u8 (x.kind : Int)) := ck 0 _ rfl
          have c1 : wr.cell? ⟨b, off + k * 7 + 1, none⟩ = some (.int .u8 (x.a : Int)) := ck 1 _ rfl
          have c2 : wr.cell? ⟨b, off + k * 7 + 2, none⟩ = some (.int .u8 (x.b : Int)) := ck 2 _ rfl
          have c3 : wr.cell? ⟨b, off + k * 7 + 3, none⟩ = some (.int .u8 (x.nm : Int)) := ck 3 _ rfl
          have c4 : wr.cell? ⟨b, off + k * 7 + 4, none⟩ = some vp := ck 4 _ rfl
          have c5 : wr.cell? ⟨b, off + k * 7 + 5, none⟩ = some (.int .i16 x.first) := ck 5 _ rfl
          have c6 : wr.cell? ⟨b, off + k * 7 + 6, none⟩ = some vl := ck 6 _ rfl
          obtain ⟨T, hT⟩ : ∃ T : ByteArray, T = ⟨(Sc.text Dy.text (Sc.raw x)).toArray⟩ := ⟨_, rfl⟩
          have htz : T.size ≤ 3000 := by rw [hT]; show (Sc.text Dy.text (Sc.raw x)).toArray.size ≤ 3000; rw [List.size_toArray]; exact htl
          have hSS := HSS.out
          have x1 : T.size + 1 ≤ 9223372036854775807 := by omega
          have x2 : S.size + (T.size + 1) ≤ 9223372036854775807 := by omega
          have HTZ := Lib.hid (And.intro hT htz)
          clear hlt hcc ck hq hsm htl hT htz hSS h30 hk
          obtain ⟨pp, np, cp, rfl⟩ : ∃ p n c, vp = .slice p n c := by obtain ⟨p, c, e, _⟩ := HQ.out.2.1; exact ⟨_, _, _, e⟩
          obtain ⟨ps, ns, cs, rfl⟩ : ∃ p n c, vl = .slice p n c := by obtain ⟨p, c, e, _⟩ := HQ.out.2.2; exact ⟨_, _, _, e⟩
          go_wp2_with fail
          have BA := below_alloc (Below.refl _ wr) (.cells (ov x (.slice pp np cp) (.slice ps ns cs)).toArray 38)
          have hqa := okO_below HQ.out BA
          refine (raw_any x HQ.out.1 _ _ (wr.alloc (.cells (ov x (.slice pp np cp) (.slice ps ns cs)).toArray 38)) hqa.2.1 hqa.2.2).mono ?_
          rintro _ w2' ⟨v1, v2, rfl, hp, hn, hf1, hf2, hb2⟩
          have B2 := below_then BA hb2
          go_wp2_with fail
          refine (ltext_any (Sc.raw x) v1 v2 HRC.out w2' hp hn (HM.out.below (below_then HBZ.out B2))).mono ?_
          rintro _ w3' ⟨rfl, hb3⟩
          rw [← HTZ.out.1]
          have HB3 := Lib.hid (below_then HB1.out (below_then B2 hb3))
          clear hp hn hf1 hf2 hb2 B2 hb3 BA hqa c0 c1 c2 c3 c4 c5 c6
          go_wp2_with fail
          refine ⟨⟨k + 1, S ++ (T ++ ⟨#[10]⟩), by have := HLT.out; omega, by simp, rfl, ?_, HB3.out⟩, by have := HLT.out; simp [intOf]; omega⟩
          rw [ByteArray.size_append, ByteArray.size_append]
          have h7 := HTZ.out.2
          have h8 := HSS.out
          have h9 : (⟨#[10]⟩ : ByteArray).size = 1 := rfl
          omega
        · have i1 : ¬ (k : Int) < (l1.length : Int) := by omega
          have HSZ := Lib.hid (show S.size ≤ 61000 by have := HSS.out; omega)
          clear hlt h30
          obtain ⟨K, hK⟩ : ∃ K : Nat, K = at0 % (S.size + 1) := ⟨_, rfl⟩
          have hKS : K ≤ S.size := by rw [hK]; have := Nat.mod_lt at0 (show 0 < S.size + 1 by omega); omega
          have e1 : (at0 : Int) % ((S.size : Int) + 1) = (K : Int) := by rw [hK]; rfl
          have e2 : ¬ (S.size : Int) + 1 = 0 := by omega
          have e3 : IntKind.i64.wrap ((S.size : Int) + 1) = (S.size : Int) + 1 := by have := HSZ.out; rw [IntKind.wrap_i64]; omega
          obtain ⟨d, hd⟩ : ∃ d : Nat, d = cut % 9 := ⟨_, rfl⟩
          have e4 : (cut : Int) % 9 = (d : Int) := by omega
          have e5 : IntKind.i64.wrap ((K : Int) + (d : Int)) = (K : Int) + (d : Int) := by have := HSZ.out; rw [IntKind.wrap_i64]; omega
          have k0 : (0 : Int) ≤ (K : Int) := by omega
          have k1 : (K : Int) ≤ (S.size : Int) := by omega
          have e6 : (at0 : Int).tmod ((S.size : Int) + 1) = (K : Int) := by rw [Int.tmod_eq_emod_of_nonneg (by omega)]; exact e1
          have hat := HAC.out.1
          have hcut := HAC.out.2
          have hm40 := H30.out.2
          have hsz := HSZ.out
          have f1 : (S.extract 0 K).size + more.size ≤ 9223372036854775807 := by rw [ByteArray.size_extract]; omega
          have f2 : min K S.size + more.size ≤ 9223372036854775807 := by omega
          have f3 : K + more.size ≤ 9223372036854775807 := by omega
          have f4 : K + more.size + (S.size - (min ((K : Int) + (d : Int)) (S.size : Int)).toNat) ≤ 9223372036854775807 := by omega
          clear hK hd hm40 hsz
          go_wp2_with fail
          go_region
          obtain ⟨Z, hZ⟩ : ∃ Z : ByteArray, Z = S.extract 0 K ++ more ++ S.extract (min ((K : Int) + (d : Int)) (S.size : Int)).toNat S.size := ⟨_, rfl⟩
          rw [← hZ]
          have hZs : Z.size ≤ 65536 := by
            rw [hZ, ByteArray.size_append, ByteArray.size_append, ByteArray.size_extract, ByteArray.size_extract]
            have hm40 := H30.out.2
            have hsz := HSZ.out
            omega
          obtain ⟨l, hl⟩ : ∃ l, l = Z.data.toList := ⟨_, rfl⟩
          have hzl : Z.size = l.length := by rw [hl]; exact size_data Z
          have HZL := Lib.hid (And.intro hl (show l.length ≤ 65536 by omega))
          have HBD := Lib.hid (Below.drew HBZ.out)
          clear hZ hZs hl hzl e1 e2 e3 e4 e5 e6 k0 k1 f1 f2 f3 f4 hat hcut
          go_wp2_with fail
          refine (pparse_any Z l HZL.out.1 wr.drew (HM.out.below HBD.out)).mono ?_
          rintro e2 w2' ⟨hr2, hb2⟩
          obtain ⟨p1, n1, c1, a1', er1, rfl, h1⟩ := parse_out hr2
          have H1 := Lib.hid h1
          have HB2' := Lib.hid (below_then HBD.out hb2)
          clear hr2 h1 hb2
          go_wp2_with fail
          refine (lparse_any Z l HZL.out.1 HZL.out.2 w2' (HM.out.below HB2'.out)).mono ?_
          rintro e3 w3' ⟨hr3, hb3⟩
          obtain ⟨p2, n2, c2, a2', er2, rfl, h2⟩ := parse_out hr3
          obtain ⟨rfl, rfl, rfl, hS⟩ := pair14 (H1.out.below hb3) h2
          have HS := Lib.hid hS
          have HB3' := Lib.hid (below_then HB2'.out hb3)
          clear hr3 h2 hS hb3
          go_wp2_with fail
          refine HS.out.mono ?_
          rintro _ w4' ⟨rfl, hb4⟩
          have HB4' := Lib.hid (below_then HB3'.out hb4)
          clear hb4
          go_wp2_with fail
          go_ret
          exact ⟨rfl, HB4'.out⟩
theorem parseSpoilt_int (a1 : Option Addr) (len1 cap1 : Nat) (l1 : List (Sc.O × Value × Value)) (at0 cut : Int) (more : ByteArray) (w : World) (hM : Glb13 w) (hl1 : l1.length = len1)
    (hok1 : ∀ x ∈ l1, okO w x) (hE1 : ElsAt ovE 7 o0 w a1 l1) (hlm1 : len1 ≤ 9223372036854775807) (hat : 0 ≤ at0 ∧ at0 ≤ 65535) (hcut : 0 ≤ cut ∧ cut ≤ 255) :
    Calls Tryz.prog 5 #[.slice a1 len1 cap1, .int .u16 at0, .int .u8 cut, .string more] w fun e w' => e = .returned (.bool true) ∧ Below w.heap.size w w' := by
  obtain ⟨n0, rfl⟩ := Int.eq_ofNat_of_zero_le hat.1
  obtain ⟨n1, rfl⟩ := Int.eq_ofNat_of_zero_le hcut.1
  exact parseSpoilt_law a1 len1 cap1 l1 n0 n1 more w hM hl1 hok1 hE1 hlm1 (by omega) (by omega)
end Go.Proofs.YtbhjkddjgikaiaaGreatDoor

namespace Go.Proofs.YtbhjkddjgikaiaaGreatDoor
open Go.RowKit
set_option linter.unusedVariables false
set_option linter.unusedSimpArgs false
theorem otext_len3 (o : Sc.Op) (ho : o.can) (h1 : o.name.length ≤ 30) (h2 : o.parts.length ≤ 8) (h3 : o.starts.length ≤ 13) : (Sc.text Dy.text o).length ≤ 1000 := by
  have hd : ∀ n, n ≤ 4294967295 → (Sc.dec n).length ≤ 20 := fun n hn => dec_len n (by omega)
  have hk := ho.kind
  have hw : ∀ k, k < 8 → (Sc.word k).length ≤ 8 := word_len
  have hl : ∀ k, k < 8 → (Sc.link k).length ≤ 8 := link_len
  have a := hd o.fr ho.fr
  have b := hd o.too ho.too
  have c := dtext_len o.fin
  have d := flat_days o.starts
  have hp : (Sc.partsT o.parts).length ≤ 500 := by
    rcases h : o.parts with _ | ⟨p, r⟩
    · simp [Sc.partsT]
    · have hj := join_parts p r
      have hpl := prts_len (p :: r) (by rw [← h]; exact ho.parts.2.2)
      have e : (Lib.join ((p :: r).map prt) [44, 32]).length + 1 = (Sc.partsT (p :: r)).length := by rw [← hj]; rfl
      rw [h] at h2
      omega
  unfold Sc.text
  have w1 := hw 1 (by omega)
  have w4 := hw 4 (by omega)
  have w7 := hw 7 (by omega)
  have wk := hw o.kind hk
  have l4 := hl 4 (by omega)
  have l7 := hl 7 (by omega)
  have lk := hl o.kind hk
  repeat' split
  all_goals
    simp only [List.length_append, List.length_cons, List.length_nil]
    omega
theorem place_app (dt : Int → List UInt8) : ∀ (l m : List Sc.Op) (i : Nat), Sc.place dt 1 i (l ++ m) = Sc.place dt 1 i l ++ Sc.place dt 1 (i + (Sc.print dt l).length) m
  | [], m, i => by simp [Sc.place, Sc.print]
  | o :: l, m, i => by
    have h := place_app dt l m (i + (Sc.text dt o).length + 1)
    have h2 : (Sc.print dt (o :: l)).length = (Sc.text dt o).length + 1 + (Sc.print dt l).length := by
      simp [Sc.print]
      omega
    simp only [List.cons_append, Sc.place]
    rw [h, h2, show i + ((Sc.text dt o).length + 1 + (Sc.print dt l).length) = i + (Sc.text dt o).length + 1 + (Sc.print dt l).length by omega]
theorem place_snoc (l : List Sc.Op) (o : Sc.Op) : Sc.place Dy.text 1 0 (l ++ [o]) = Sc.place Dy.text 1 0 l ++ [{ o with pos := (Sc.print Dy.text l).length }] := by
  rw [place_app, Nat.zero_add]
  rfl
set_option maxHeartbeats 16000000 in
set_option maxRecDepth 100000 in
theorem parseBack_law (a1 : Option Addr) (len1 cap1 : Nat) (l1 : List (Sc.O × Value × Value)) (w : World) (hM : Glb13 w) (hl1 : l1.length = len1)
    (hok1 : ∀ x ∈ l1, okO w x) (hE1 : ElsAt ovE 7 o0 w a1 l1) (hlm1 : len1 ≤ 9223372036854775807) :
    Calls Tryz.prog 7 #[.slice a1 len1 cap1] w fun e w' => e = .returned (.bool true) ∧ Below w.heap.size w w' := by
  subst hl1
  have HA := Lib.hid (awake14 w hM)
  have HE1 := Lib.hid hE1
  have HO1 := Lib.hid hok1
  have HM := Lib.hid hM
  clear hM hok1 hE1
  go_enter Tryz.func7, Tryz.ntmps7
  go_wp2_with fail
  refine HA.out.mono ?_
  rintro _ w1 ⟨rfl, hb1⟩
  have HBS := Lib.hid hb1
  clear hb1
  by_cases h1 : 60 < l1.length
  · have j1 : (60 : Int) < (l1.length : Int) := by omega
    go_wp2_with fail
    go_ret
    exact ⟨rfl, HBS.out⟩
  · have j1 : ¬ (60 : Int) < (l1.length : Int) := by omega
    have H30 := Lib.hid h1
    clear h1 hlm1
    go_wp2_with fail
    clear j1
    go_loopw [3, 4, 18] (fun sv st iv wr => ∃ (k : Nat) (v : Value) (vals : List (Sc.Op × Value × Value)), k ≤ l1.length ∧ iv = .int .i64 (k : Int) ∧ v = sv ∧ st = .string ⟨(Sc.print Dy.text (vals.map (·.1))).toArray⟩ ∧ wr.ownsRow w1.heap.size 48 8 v k (vals.flatMap opE) ∧ (∀ e ∈ vals, (okE wr e ∧ away wr e v.ownBlock) ∧ e.1.ok Dy.inY ∧ e.1.may) ∧ ((Sc.print Dy.text (vals.map (·.1))).length ≤ 1001 * k ∧ Sc.place Dy.text 1 0 (vals.map (·.1)) = vals.map (·.1)) ∧ Below w1.heap.size w1 wr) (fun _ _ iv _ => l1.length - (intOf iv).toNat)
    case atStart => exact ⟨0, _, [], by omega, rfl, rfl, rfl, ⟨rfl, .inl ⟨rfl, rfl⟩⟩, (fun e he => by cases he), ⟨by show 0 ≤ 1001 * 0; omega, rfl⟩, Below.refl _ _⟩
    case round =>
      obtain ⟨k, sv, vals1, hk, rfl, rfl, rfl, hown, hall, ⟨hlen, hpl⟩, BB⟩ := hrel
      have h30 := H30.out
      have hlv : vals1.length = k := (els_ownG opE 8 opE0 (fun _ => rfl) (by omega) hown).1
      obtain ⟨tx, htx⟩ : ∃ t, t = Sc.print Dy.text (vals1.map (·.1)) := ⟨_, rfl⟩
      rw [← htx] at hlen ⊢
      have HTX1 := Lib.hid (And.intro htx hpl)
      have HTL := Lib.hid hlen
      have HLV1 := Lib.hid hlv
      have HOW1 := Lib.hid hown
      have HAL1 := Lib.hid hall
      have HB1 := Lib.hid BB
      have HBZ := Lib.hid (Below.trans HBS.out (below_base14 BB HBS.out.size))
      clear hown hall BB htx hlen hlv hpl
      by_cases hlt : k < l1.length
      · have i0 : (0 : Int) ≤ (k : Int) := by omega
        have i1 : (k : Int) < (l1.length : Int) := by omega
        obtain ⟨b, off, rfl, hcc⟩ : ∃ b off, a1 = some ⟨b, off, none⟩ ∧ ∀ i, i < l1.length → w.rangeAt b (off + i * 7) (ovE (l1.getD i o0)) := by
          rcases HE1.out with h | h
          · rw [h] at hlt; simp at hlt
          · exact h
        have ck := range_below (hcc k hlt) HBZ.out
        have hq := okO_below (HO1.out _ (getD_mem (d := o0) hlt)) HBZ.out
        generalize l1.getD k o0 = q at ck hq
        obtain ⟨x, vp, vl⟩ := q
        have HRC := Lib.hid (Sc.raw_can x hq.1)
        have HRM := Lib.hid (And.intro (Sc.raw_ok x hq.1) (Sc.raw_may x hq.1))
        have HQ := Lib.hid hq
        have HLT := Lib.hid hlt
        have e9 : IntKind.i64.wrap ((k : Int) + 1) = (k : Int) + 1 := by rw [IntKind.wrap_i64]; omega
        have c0 : wr.cell? ⟨b, off + k * 7, none⟩ = some (.int .u8 (x.kind : Int)) := ck 0 _ rfl
        have c1 : wr.cell? ⟨b, off + k * 7 + 1, none⟩ = some (.int .u8 (x.a : Int)) := ck 1 _ rfl
        have c2 : wr.cell? ⟨b, off + k * 7 + 2, none⟩ = some (.int .u8 (x.b : Int)) := ck 2 _ rfl
        have c3 : wr.cell? ⟨b, off + k * 7 + 3, none⟩ = some (.int .u8 (x.nm : Int)) := ck 3 _ rfl
        have c4 : wr.cell? ⟨b, off + k * 7 + 4, none⟩ = some vp := ck 4 _ rfl
        have c5 : wr.cell? ⟨b, off + k * 7 + 5, none⟩ = some (.int .i16 x.first) := ck 5 _ rfl
        have c6 : wr.cell? ⟨b, off + k * 7 + 6, none⟩ = some vl := ck 6 _ rfl
        clear hlt hcc ck hq
        obtain ⟨pp, np, cp, rfl⟩ : ∃ p n c, vp = .slice p n c := by obtain ⟨p, c, e, _⟩ := HQ.out.2.1; exact ⟨_, _, _, e⟩
        obtain ⟨ps, ns, cs, rfl⟩ : ∃ p n c, vl = .slice p n c := by obtain ⟨p, c, e, _⟩ := HQ.out.2.2; exact ⟨_, _, _, e⟩
        go_wp2_with fail
        have BA := below_alloc (Below.refl _ wr) (.cells (ov x (.slice pp np cp) (.slice ps ns cs)).toArray 38)
        have hqa := okO_below HQ.out BA
        have hsm := raw_small x
        have htr := otext_len3 (Sc.raw x) (Sc.raw_can x HQ.out.1) hsm.1 hsm.2.1 hsm.2.2
        refine (raw_any x HQ.out.1 _ _ (wr.alloc (.cells (ov x (.slice pp np cp) (.slice ps ns cs)).toArray 38)) hqa.2.1 hqa.2.2).mono ?_
        rintro _ w2' ⟨v1, v2, rfl, hp, hn, hf1, hf2, hb2⟩
        have B2 := below_then BA hb2
        have hsz2 := BA.size
        have hsz3 := B2.size
        obtain ⟨q1, m1, y1, rfl⟩ : ∃ p n c, v1 = .slice p n c := by obtain ⟨p, c, e, _⟩ := hp; exact ⟨_, _, _, e⟩
        obtain ⟨q2, m2, y2, rfl⟩ : ∃ p n c, v2 = .slice p n c := by obtain ⟨p, c, e, _⟩ := hn; exact ⟨_, _, _, e⟩
        have hr0 := Sc.raw_pos x
        obtain ⟨ro, hro⟩ : ∃ o, o = Sc.raw x := ⟨_, rfl⟩
        rw [← hro] at hp hn HRC HRM hr0 htr ⊢
        have htxl : tx.length ≤ 100000 := by have := HTL.out; have := HLT.out; have := H30.out; omega
        obtain ⟨ra, hra⟩ : ∃ o : Sc.Op, o = { ro with pos := tx.length } := ⟨_, rfl⟩
        have hrac : ra.can := by
          obtain ⟨c1, c2, c3, c4, c5, c6, c7⟩ := HRC.out
          rw [hra]
          exact ⟨c1, c2, c3, c4, c5, c6, by show tx.length ≤ _; omega⟩
        have hram : ra.ok Dy.inY ∧ ra.may := by
          obtain ⟨⟨d1, d2, d3, d4, d5, d6, d7⟩, hm⟩ := HRM.out
          cases hm
          rw [hra]
          exact ⟨⟨d1, d2, d3, d4, d5, d6, d7⟩, by constructor <;> assumption⟩
        have HRC := Lib.hid hrac
        have HRM := Lib.hid hram
        have hp : PtsAt w2' (.slice q1 m1 y1) ra.parts := by rw [hra]; exact hp
        have hn : NsAt .i32 w2' (.slice q2 m2 y2) ra.starts := by rw [hra]; exact hn
        have HRAP : Hid (ra = { ra with pos := tx.length }) := Lib.hid (by rw [hra])
        have HTR := Lib.hid (show (Sc.text Dy.text ra).length ≤ 1000 by rw [hra]; exact htr)
        have hCA : (#[.int .i64 (ro.kind : Int), .int .u32 (ro.fr : Int), .int .u32 (ro.too : Int), .string ⟨ro.name.toArray⟩, .slice q1 m1 y1, .slice q2 m2 y2, .int .i32 ro.fin, .int .i64 (tx.length : Int)] : Array Value) = #[.int .i64 (ra.kind : Int), .int .u32 (ra.fr : Int), .int .u32 (ra.too : Int), .string ⟨ra.name.toArray⟩, .slice q1 m1 y1, .slice q2 m2 y2, .int .i32 ra.fin, .int .i64 (ra.pos : Int)] := by rw [hra]
        have B3 : Below w2'.heap.size w2' (w2'.alloc (.cells #[.int .i64 (ro.kind : Int), .int .u32 (ro.fr : Int), .int .u32 (ro.too : Int), .string ⟨ro.name.toArray⟩, .slice q1 m1 y1, .slice q2 m2 y2, .int .i32 ro.fin, .int .i64 (tx.length : Int)] 48)) := below_alloc (Below.refl _ w2') _
        have R3 : Row (w2'.alloc (.cells #[.int .i64 (ro.kind : Int), .int .u32 (ro.fr : Int), .int .u32 (ro.too : Int), .string ⟨ro.name.toArray⟩, .slice q1 m1 y1, .slice q2 m2 y2, .int .i32 ro.fin, .int .i64 (tx.length : Int)] 48)) w2'.heap.size #[.int .i64 (ro.kind : Int), .int .u32 (ro.fr : Int), .int .u32 (ro.too : Int), .string ⟨ro.name.toArray⟩, .slice q1 m1 y1, .slice q2 m2 y2, .int .i32 ro.fin, .int .i64 (tx.length : Int)] 48 := Row.new w2' _ _
        have hS3 : (w2'.alloc (.cells #[.int .i64 (ro.kind : Int), .int .u32 (ro.fr : Int), .int .u32 (ro.too : Int), .string ⟨ro.name.toArray⟩, .slice q1 m1 y1, .slice q2 m2 y2, .int .i32 ro.fin, .int .i64 (tx.length : Int)] 48)).heap.size = w2'.heap.size + 1 := Array.size_push _
        have BAy := below_alloc B3 (.cells #[.int .i64 (ro.kind : Int), .int .u32 (ro.fr : Int), .int .u32 (ro.too : Int), .string ⟨ro.name.toArray⟩, .slice q1 m1 y1, .slice q2 m2 y2, .int .i32 ro.fin, .int .i64 (tx.length : Int)] 48)
        have BYW := (below_then HB1.out B2).trans ((BAy).mono (below_then HB1.out B2).size)
        have haw : ∀ g, ((Value.slice q1 m1 y1).ownBlock = some g ∨ (Value.slice q2 m2 y2).ownBlock = some g) → g < w2'.heap.size ∧ sv.ownBlock ≠ some g := fun g hg => by
          have h1 : (wr.alloc (.cells (ov x (.slice pp np cp) (.slice ps ns cs)).toArray 38)).heap.size ≤ g ∧ g < w2'.heap.size := by
            rcases hg with hg | hg
            · exact hf1 g hg
            · exact hf2 g hg
          refine ⟨h1.2, fun e => ?_⟩
          have := (ownW_lt HOW1.out e).2
          omega
        have hall2 : ∀ e ∈ vals1 ++ [(ra, Value.slice q1 m1 y1, Value.slice q2 m2 y2)], (okE w2' e ∧ ∀ g, (e.2.1.ownBlock = some g ∨ e.2.2.ownBlock = some g) → g < w2'.heap.size ∧ sv.ownBlock ≠ some g) ∧ e.1.ok Dy.inY ∧ e.1.may := fun e he => by
          rcases List.mem_append.1 he with he | he
          · have hh := HAL1.out e he
            exact ⟨⟨okE_below hh.1.1 B2, fun g hg => by have := hh.1.2 g hg; exact ⟨by omega, this.2⟩⟩, hh.2⟩
          · obtain rfl := List.mem_singleton.1 he
            exact ⟨⟨⟨HRC.out, hp, hn⟩, haw⟩, HRM.out⟩
        obtain ⟨v6, w6, hr6, ho6, hb6, hk6, hv6, hsz6⟩ := append_op ((w2'.alloc (.cells #[.int .i64 (ro.kind : Int), .int .u32 (ro.fr : Int), .int .u32 (ro.too : Int), .string ⟨ro.name.toArray⟩, .slice q1 m1 y1, .slice q2 m2 y2, .int .i32 ro.fin, .int .i64 (tx.length : Int)] 48)).alloc (.cells #[.int .i64 (ro.kind : Int), .int .u32 (ro.fr : Int), .int .u32 (ro.too : Int), .string ⟨ro.name.toArray⟩, .slice q1 m1 y1, .slice q2 m2 y2, .int .i32 ro.fin, .int .i64 (tx.length : Int)] 48)) w1.heap.size 26 sv k vals1 (own_alloc (ownW_below (ownW_below HOW1.out B2) B3) _) (w2'.heap.size + 1) ra q1 q2 m1 m2 y1 y2 (by rw [show (opc ra (.slice q1 m1 y1) (.slice q2 m2 y2)).toArray = #[.int .i64 (ro.kind : Int), .int .u32 (ro.fr : Int), .int .u32 (ro.too : Int), .string ⟨ro.name.toArray⟩, .slice q1 m1 y1, .slice q2 m2 y2, .int .i32 ro.fin, .int .i64 (tx.length : Int)] from hCA.symm]; exact Row.new' _ _ _ hS3.symm) (by omega) BYW.size
        have hs2 := BAy.size
        have hgl : w2'.heap.size < (w2'.alloc (.cells #[.int .i64 (ro.kind : Int), .int .u32 (ro.fr : Int), .int .u32 (ro.too : Int), .string ⟨ro.name.toArray⟩, .slice q1 m1 y1, .slice q2 m2 y2, .int .i32 ro.fin, .int .i64 (tx.length : Int)] 48)).heap.size := R3.lt
        have RO6 : Row w6 w2'.heap.size #[.int .i64 (ra.kind : Int), .int .u32 (ra.fr : Int), .int .u32 (ra.too : Int), .string ⟨ra.name.toArray⟩, .slice q1 m1 y1, .slice q2 m2 y2, .int .i32 ra.fin, .int .i64 (ra.pos : Int)] 48 := by rw [← hCA]; exact (hk6 w2'.heap.size (R3.alloc _).lt (fun e => by have := (ownW_lt HOW1.out e).2; omega)).trans (R3.alloc _)
        have hall6 : ∀ e ∈ vals1 ++ [(ra, Value.slice q1 m1 y1, Value.slice q2 m2 y2)], (okE w6 e ∧ away w6 e v6.ownBlock) ∧ e.1.ok Dy.inY ∧ e.1.may := fun e he => by
          have key := hall2 e he
          refine ⟨⟨okE_kept (okE_below key.1.1 BAy) (o := sv.ownBlock) (fun g hg => by have := key.1.2 g hg; exact ⟨by omega, this.2⟩) hk6, fun g hg => ?_⟩, key.2⟩
          have hgg := key.1.2 g hg
          refine ⟨by omega, ?_⟩
          rcases hv6 with e | e
          · rw [e]; exact hgg.2
          · rw [e]; intro e2; injection e2 with e2; omega
        have B6 := BYW.trans hb6
        have hl6 := hall6 (ra, .slice q1 m1 y1, .slice q2 m2 y2) (by simp)
        have HP6 := Lib.hid hl6.1.1
        have HALL6 := Lib.hid hall6
        have HOW6 := Lib.hid ho6
        have HB6 := Lib.hid B6
        have HR6 := Lib.hid hr6
        have HCA := Lib.hid hCA
        clear hCA hra hr0 hr6 ho6 hb6 hk6 hv6 hsz6 hall6 BAy BYW hs2 hall2 haw hro hsz2 hsz3 hp hn hf1 hf2 hb2 B2 B3 BA hqa c0 c1 c2 c3 c4 c5 c6 h30 hk B6 hl6 hgl R3 hS3
        unfold opc
        go_wp2_with (first
          | (at_builtin; refine ev_run rfl (run_app_op _ _ _ _ rfl rfl rfl HR6.out) ?_)
          | (refine ev_load (N := 32) rfl rfl 48 (Operand.tmp 7) rfl w2'.heap.size rfl RO6 _ Tryz.underlying48 rfl (by kernel_rfl) ?_))
        refine (ltext_any ra (.slice q1 m1 y1) (.slice q2 m2 y2) HRC.out w6 HP6.out.2.1 HP6.out.2.2 (HM.out.below (Below.trans HBS.out (below_base14 HB6.out HBS.out.size)))).mono ?_
        rintro _ w8 ⟨rfl, hb8⟩
        have HALL8 : Hid (∀ e ∈ vals1 ++ [(ra, Value.slice q1 m1 y1, Value.slice q2 m2 y2)], (okE w8 e ∧ away w8 e v6.ownBlock) ∧ e.1.ok Dy.inY ∧ e.1.may) := Lib.hid fun e he => by
          have hh := HALL6.out e he
          exact ⟨⟨okE_below hh.1.1 hb8, fun g hg => ⟨Nat.lt_of_lt_of_le (hh.1.2 g hg).1 hb8.size, (hh.1.2 g hg).2⟩⟩, hh.2⟩
        have HOW8 := Lib.hid (ownW_below HOW6.out hb8)
        have HB8 := Lib.hid (below_then HB6.out hb8)
        have hx2 : (Sc.text Dy.text ra).length + 1 ≤ 9223372036854775807 := by have := HTR.out; omega
        have hx3 : tx.length + ((Sc.text Dy.text ra).length + 1) ≤ 9223372036854775807 := by have := HTR.out; have := HTL.out; have := HLT.out; have := H30.out; omega
        clear RO6 hb8
        go_wp2_with fail
        have hpr : Sc.print Dy.text ((vals1 ++ [(ra, Value.slice q1 m1 y1, Value.slice q2 m2 y2)]).map (·.1)) = tx ++ (Sc.text Dy.text ra ++ [10]) := by
          rw [List.map_append, HTX1.out.1]
          exact print_snoc _ _
        refine ⟨⟨k + 1, _, vals1 ++ [(ra, .slice q1 m1 y1, .slice q2 m2 y2)], by have := HLT.out; omega, by simp, rfl, ?_, HOW8.out, HALL8.out, ⟨?_, ?_⟩, HB8.out⟩, by have := HLT.out; simp [intOf]; omega⟩
        · rw [hpr]
          refine congrArg Value.string ?_
          apply ByteArray.ext
          simp
        · rw [hpr]
          have h1 := HTL.out
          have h2 := HTR.out
          simp only [List.length_append, List.length_cons, List.length_nil]
          omega
        · rw [List.map_append, List.map_cons, List.map_nil, place_snoc]
          have h1 := HTX1.out
          rw [h1.2, ← h1.1, ← HRAP.out]
      · have i1 : ¬ (k : Int) < (l1.length : Int) := by omega
        obtain rfl : k = l1.length := by omega
        clear hlt hk
        have how1 := HOW1.out
        obtain ⟨hlA, pA, cA, rfl, hEA⟩ := els_ownG opE 8 opE0 (fun _ => rfl) (by omega) how1
        have h30 := H30.out
        have hpp := Sc.parse_print Dy.parse Dy.text Dy.inY Dy.day_tok (vals1.map (·.1)) (fun o ho => by
          obtain ⟨e, he, rfl⟩ := List.mem_map.1 ho
          exact (HAL1.out e he).2) (by rw [List.length_map]; omega) (by rw [← HTX1.out.1]; have := HTL.out; omega)
        rw [← HTX1.out.1, HTX1.out.2] at hpp
        have HPQ := Lib.hid (pparse_any ⟨tx.toArray⟩ tx (by simp) wr (HM.out.below HBZ.out))
        have HPP := Lib.hid (And.intro hpp (And.intro hEA (And.intro hlA h30)))
        have hcan : ∀ o ∈ vals1.map (·.1), o.can := fun o ho => by
          obtain ⟨e, he, rfl⟩ := List.mem_map.1 ho
          exact (HAL1.out e he).1.1.1
        have hokA : ∀ e ∈ vals1, okP wr e := fun e he => (HAL1.out e he).1.1.2
        have HCA := Lib.hid (And.intro hcan hokA)
        clear hpp hEA hlA h30 how1 hcan hokA
        go_wp2_with fail
        refine HPQ.out.mono ?_
        rintro e2 w2' ⟨hr2, hb2⟩
        rw [HPP.out.1] at hr2
        obtain ⟨v, vals2, rfl, how2, hv2, hok2⟩ : ∃ (v : Value) (vals : List (Sc.Op × Value × Value)), e2 = .returned (.tuple #[v, .int .i64 0, .int .i64 0]) ∧ w2'.ownsRow wr.heap.size 48 8 v vals.length (vals.flatMap opE) ∧ vals.map (·.1) = vals1.map (·.1) ∧ ∀ x ∈ vals, okP w2' x := hr2
        obtain ⟨_, p2, c2, rfl, hE2⟩ := els_ownG opE 8 opE0 (fun _ => rfl) (by omega) how2
        have hpp := HPP.out
        have hll : vals2.length = vals1.length := by have := congrArg List.length hv2; simpa using this
        have hc2 : ∀ e ∈ vals2, e.1.can := fun e he => HCA.out.1 e.1 (by rw [← hv2]; exact List.mem_map_of_mem he)
        have HS := Lib.hid (same14 p2 pA c2 cA vals2 vals1 w2' hE2 (hpp.2.1.below hb2) hok2 (fun e he => okP_only (HCA.out.2 e he) (Only.of_below (S := fun _ => False) hb2) (fun _ _ h => h)) (by omega) hv2 (fun e he => ⟨by have := (hc2 e he).parts.2.1; omega, by have := (hc2 e he).starts; omega⟩))
        have HE2 := Lib.hid (And.intro hE2 (And.intro (show ∀ e ∈ vals2, okE w2' e from fun e he => ⟨hc2 e he, hok2 e he⟩) (show vals2.length ≤ 100 by omega)))
        have HTV := Lib.hid (show Sc.print Dy.text (vals2.map (·.1)) = tx by rw [hv2]; exact HTX1.out.1.symm)
        have HB2 := Lib.hid (below_then HBZ.out hb2)
        clear how2 hv2 hok2 hE2 hpp hll hc2 hb2
        go_wp2_with fail
        refine HS.out.mono ?_
        rintro _ w3' ⟨rfl, hb3⟩
        have hpr := print_any vals2 p2 c2 w3' (HE2.out.1.below hb3) (fun e he => okE_below (HE2.out.2.1 e he) hb3) HE2.out.2.2 (HM.out.below (below_then HB2.out hb3))
        rw [HTV.out] at hpr
        have HPR := Lib.hid hpr
        have HB3 := Lib.hid (below_then HB2.out hb3)
        clear hpr hb3
        go_wp2_with fail
        refine HPR.out.mono ?_
        rintro _ w4' ⟨rfl, hb4⟩
        have HB4 := Lib.hid (below_then HB3.out hb4)
        clear hb4
        go_wp2_with fail
        go_ret
        exact ⟨rfl, HB4.out⟩
end Go.Proofs.YtbhjkddjgikaiaaGreatDoor

namespace Go.Proofs.YtbhjkddjgikaiaaGreatDoor
set_option linter.unusedVariables false
set_option linter.unusedSimpArgs false
set_option autoImplicit false
namespace Sc
open Lx
def gapOk (s : List UInt8) : Prop := s = [32] ∨ s = [10] ∨ ∃ n, s = 35 :: (n ++ [10]) ∧ ∀ b ∈ n, b ≠ (10 : UInt8)
theorem split_gap (pd : List UInt8 → Option Int) (s : List UInt8) (h : gapOk s) (m : List UInt8) (i : Nat) : split pd (s ++ m) i = split pd m (i + s.length) := by
  rcases h with rfl | rfl | ⟨n, rfl, hn⟩
  · exact split_blank pd 32 m i (.inl rfl)
  · exact split_blank pd 10 m i (.inr rfl)
  · have hr : run note ((35 :: n) ++ (10 :: m)) = (35 :: n).length := run_stop note (10 :: m) (by show note 10 = false; decide) (35 :: n) (fun b hb => by
      rcases List.mem_cons.1 hb with rfl | hb
      · decide
      · simp [note, hn b hb])
    have e : (35 :: (n ++ [10])) ++ m = 35 :: (n ++ (10 :: m)) := by simp
    rw [e, split_note]
    have hr : run note (35 :: (n ++ (10 :: m))) = n.length + 1 := by simpa using hr
    rw [hr, List.drop_succ_cons, List.drop_left, split_blank pd 10 m _ (.inr rfl)]
    congr 1
    simp
    omega
theorem split_gaps (pd : List UInt8 → Option Int) : ∀ (l : List (List UInt8)), (∀ s ∈ l, gapOk s) → ∀ (m : List UInt8) (i : Nat), split pd (l.flatten ++ m) i = split pd m (i + l.flatten.length)
  | [], _, m, i => by simp
  | s :: l, h, m, i => by
    rw [List.flatten_cons, List.append_assoc, split_gap pd s (h s (by simp)), split_gaps pd l (fun t ht => h t (by simp [ht])), List.length_append]
    congr 1
    omega
theorem parse_gaps (pd : List UInt8 → Option Int) (l : List (List UInt8)) (h : ∀ s ∈ l, gapOk s) (hl : l.flatten.length ≤ 65536) : parse pd l.flatten = .ok [] := by
  have h1 := split_gaps pd l h [] 0
  rw [List.append_nil, split_nil] at h1
  unfold parse
  rw [if_neg (by omega), h1]
  exact parseOf_end rfl
theorem parse_gaps_word (pd : List UInt8 → Option Int) (l : List (List UInt8)) (h : ∀ s ∈ l, gapOk s) (x : List UInt8) (hx : ∀ b ∈ x, low b = true) (hl : l.flatten.length + (x.length + 1) ≤ 65536) : parse pd (l.flatten ++ 120 :: x) = .error (l.flatten.length, 17) := by
  have h1 := split_gaps pd l h (120 :: x) 0
  have h2 : one pd (120 :: x) = .ok (⟨1, 120 :: x, 0, 0, 0⟩, x.length + 1) := by
    have hr : run low (120 :: x) = x.length + 1 := by
      have := run_all low (120 :: x) (fun b hb => by
        rcases List.mem_cons.1 hb with rfl | hb
        · decide
        · exact hx b hb)
      simpa using this
    unfold one
    simp only [List.getD_cons_zero]
    rw [if_pos (by decide), hr]
    simp
  have h3 := split_one pd 120 x (0 + l.flatten.length) _ _ (by decide) (by decide) (by decide) h2
  rw [h3] at h1
  have h4 : (120 :: x).drop (x.length + 1) = [] := by simp
  rw [h4, split_nil] at h1
  unfold parse
  rw [if_neg (by rw [List.length_append, List.length_cons]; omega), h1]
  have hk : kindOf ((⟨1, 120 :: x, 0, 0, 0⟩ : Tk).put (0 + l.flatten.length) :: [tk0.put (0 + l.flatten.length + (x.length + 1))]) = none := by
    refine kindOf_none fun j hj => ?_
    unfold isN
    have hw : ∀ k, k < 8 → (word k).getD 0 0 ≠ 120 ∧ word k ≠ [] := by decide
    have h5 := hw j hj
    have h6 : ¬ (120 :: x) = word j := fun e => h5.1 (by rw [← e]; rfl)
    simp [hd, Tk.put, h5.2, h6]
  show parseOf 101 0 _ = _
  rw [parseOf_word (by show (1 : Nat) ≠ 0; omega) (by omega) hk]
  simp [hd, Tk.put]
end Sc
end Go.Proofs.YtbhjkddjgikaiaaGreatDoor
