/-
  Own texts, several in one (Cnt13, Law13c, Same13).
-/
import Derived.Test.YtbnhodpbamijkaaGreatDoorOwnRaw13
import Derived.Test.YtbnhodpbamijkaaGreatDoorMrg27
import Derived.Test.YtbnhodpbamijkaaGreatDoorOwnIn13
import Derived.Test.YtbnhodpbamijkaaGreatDoorMrg15
namespace Go.Proofs.YtbnhodpbamijkaaGreatDoor
set_option linter.unusedVariables false
set_option linter.unusedSimpArgs false
namespace Sc
/-- no end, no line in it -/
def cl (x : List UInt8) : Prop := ∀ b ∈ x, b ≠ 59 ∧ b ≠ 10
theorem cl_app {x y : List UInt8} (h : cl x) (k : cl y) : cl (x ++ y) := fun b hb => by
  rcases List.mem_append.1 hb with hb | hb
  · exact h b hb
  · exact k b hb
theorem cl_cons {c : UInt8} {x : List UInt8} (h : c ≠ 59 ∧ c ≠ 10) (k : cl x) : cl (c :: x) := fun b hb => by
  rcases List.mem_cons.1 hb with rfl | hb
  · exact h
  · exact k b hb
theorem cl_nil : cl [] := fun b hb => by cases hb
theorem cl_flat {α : Type} (f : α → List UInt8) (l : List α) (h : ∀ x ∈ l, cl (f x)) : cl (l.flatMap f) := fun b hb => by
  obtain ⟨x, hx, hb⟩ := List.mem_flatMap.1 hb
  exact h x hx b hb
theorem dig_ne {b : UInt8} (h : 48 ≤ b.toNat ∧ b.toNat ≤ 57) : b ≠ 59 ∧ b ≠ 10 := ⟨fun e => by rw [e] at h; exact absurd h (by decide), fun e => by rw [e] at h; exact absurd h (by decide)⟩
theorem low_ne : ∀ b : UInt8, Lx.low b = true → b ≠ 59 ∧ b ≠ 10 := fun b h => ⟨fun e => by rw [e] at h; exact absurd h (by decide), fun e => by rw [e] at h; exact absurd h (by decide)⟩
theorem cl_dec (n : Nat) : cl (dec n) := fun b hb => dig_ne (dec_dig n b hb)
theorem cl_word (k : Nat) : cl (word k) := fun b hb => low_ne b (word_low k b hb)
theorem cl_link (k : Nat) : cl (link k) := fun b hb => low_ne b (link_low k b hb)
theorem sp_ne : (32 : UInt8) ≠ 59 ∧ (32 : UInt8) ≠ 10 := by decide
theorem cl_part (p : Nat × Nat) : cl (part p) := cl_cons sp_ne (cl_app (cl_dec _) (cl_cons sp_ne (cl_dec _)))
theorem cl_parts (l : List (Nat × Nat)) : cl (partsT l) := by
  rcases l with _ | ⟨p, r⟩
  · exact cl_nil
  · exact cl_app (cl_part p) (cl_flat _ _ fun q _ => cl_cons (by decide) (cl_part q))
theorem cl_day (n : Int) : cl (Dy.text n) := by
  by_cases h : Dy.inY n
  · obtain ⟨y, a, b, c, d⟩ := Dy.year_ex n h
    rw [Dy.text_year n y ⟨a, b⟩ c d]
    obtain ⟨a', b', c', e, _⟩ := Dy.txt_nat n y ⟨a, b⟩ c d
    rw [e]
    have hp : ∀ n size, cl (padL ((n : Nat) : Int) size) := fun n size b hb => dig_ne (Dy.pad_dig n size b hb)
    have h45 : cl [45] := cl_cons (by decide) cl_nil
    exact cl_app (cl_app (cl_app (cl_app (hp _ _) h45) (hp _ _)) h45) (hp _ _)
  · unfold Dy.text
    rw [dif_neg]
    · exact cl_nil
    · rintro ⟨y, a, b, c, d⟩
      have h1 := ahead_bd y ⟨a, by omega⟩
      have h2 := ahead_bd (y + 1) ⟨by omega, by omega⟩
      unfold Dy.inY at h
      omega
theorem cl_body (o : Op) (hn : cl o.name) : cl (word o.kind ++ body Dy.text o) := by
  refine cl_app (cl_word _) ?_
  unfold body
  split
  · exact cl_cons sp_ne (cl_app (cl_dec _) (cl_app (cl_cons (by decide) (cl_cons (by decide) cl_nil)) (cl_app hn (cl_cons (by decide) cl_nil))))
  · split
    · exact cl_cons sp_ne (cl_app (cl_dec _) (cl_cons sp_ne (cl_app (cl_link _) (cl_parts _))))
    · split
      · exact cl_app (cl_flat _ _ fun d _ => cl_cons sp_ne (cl_day d)) (cl_cons sp_ne (cl_app (cl_link _) (cl_cons sp_ne (cl_day _))))
      · exact cl_cons sp_ne (cl_app (cl_dec _) (cl_cons sp_ne (cl_app (cl_link _) (cl_cons sp_ne (cl_dec _)))))
theorem cl_count {x : List UInt8} (h : cl x) : x.count 59 = 0 ∧ x.count 10 = 0 := ⟨List.count_eq_zero.2 fun hb => (h _ hb).1 rfl, List.count_eq_zero.2 fun hb => (h _ hb).2 rfl⟩
theorem print_count : ∀ (l : List Op), (∀ o ∈ l, cl o.name) → (print Dy.text l).count 59 = l.length ∧ (print Dy.text l).count 10 = l.length
  | [], _ => ⟨rfl, rfl⟩
  | o :: l, h => by
    obtain ⟨h1, h2⟩ := print_count l fun x hx => h x (List.mem_cons_of_mem _ hx)
    obtain ⟨k1, k2⟩ := cl_count (cl_body o (h o (by simp)))
    have e : print Dy.text (o :: l) = (word o.kind ++ body Dy.text o) ++ ([59, 10] ++ print Dy.text l) := by
      unfold print
      rw [List.flatMap_cons, text_body]
      simp
    generalize word o.kind ++ body Dy.text o = z at *
    rw [e, List.length_cons]
    refine ⟨?_, ?_⟩
    · rw [List.count_append, List.count_append, k1, h1, show List.count (59 : UInt8) [59, 10] = 1 by decide]; omega
    · rw [List.count_append, List.count_append, k2, h2, show List.count (10 : UInt8) [59, 10] = 1 by decide]; omega
theorem cl_name6 (n : Nat) : cl (name6 n) := by
  have h : ∀ x ∈ names6, ∀ b ∈ x, b ≠ 59 ∧ b ≠ 10 := by decide
  exact h _ (name6_mem n)
theorem raw_cl (x : O) : cl (raw x).name := by
  unfold raw
  split
  · exact cl_name6 _
  · split
    · exact cl_nil
    · split
      · exact cl_nil
      · split
        · exact cl_nil
        · exact cl_nil
end Sc
end Go.Proofs.YtbnhodpbamijkaaGreatDoor

namespace Go.Proofs.YtbnhodpbamijkaaGreatDoor
open Go.RowKit
set_option linter.unusedVariables false
set_option linter.unusedSimpArgs false
/-- from a lower base on -/
theorem below_base {B B2 : Nat} {w w' : World} (h : Below B2 w w') (hb : B ≤ B2) : Below B w w' := ⟨h.os, h.tape, h.output, h.size, fun k hk => h.block k (by omega)⟩
set_option maxHeartbeats 16000000 in
set_option maxRecDepth 100000 in
theorem scriptJoins_law (a1 : Option Addr) (len1 cap1 : Nat) (l1 : List (Sc.O × Value × Value)) (a2 : Option Addr) (len2 cap2 : Nat) (l2 : List (Sc.O × Value × Value)) (w : World) (hM : Glb13 w) (hl1 : l1.length = len1) (hl2 : l2.length = len2)
    (hok1 : ∀ x ∈ l1, okO w x) (hok2 : ∀ x ∈ l2, okO w x) (hE1 : ElsAt ovE 7 o0 w a1 l1) (hE2 : ElsAt ovE 7 o0 w a2 l2) (hlm1 : len1 ≤ 9223372036854775807) (hlm2 : len2 ≤ 9223372036854775807) :
    Calls Tryz.prog 10 #[.slice a1 len1 cap1, .slice a2 len2 cap2] w fun e w' => e = .returned (.bool true) ∧ Below w.heap.size w w' := by
  subst hl1
  subst hl2
  have HA := Lib.hid (awake13 w hM)
  have HE1 := Lib.hid hE1
  have HO1 := Lib.hid hok1
  have HE2 := Lib.hid hE2
  have HO2 := Lib.hid hok2
  have HM := Lib.hid hM
  clear hM hok1 hE1 hok2 hE2
  go_enter Tryz.func10, Tryz.ntmps10
  go_wp2_with fail
  refine HA.out.mono ?_
  rintro _ w1 ⟨rfl, hb1⟩
  have HBS := Lib.hid hb1
  clear hb1
  by_cases h1 : 30 < l1.length
  · have j1 : (30 : Int) < (l1.length : Int) := by omega
    go_wp2_with fail
    go_ret
    exact ⟨rfl, HBS.out⟩
  · have j1 : ¬ (30 : Int) < (l1.length : Int) := by omega
    by_cases h2 : 30 < l2.length
    · have j2 : (30 : Int) < (l2.length : Int) := by omega
      go_wp2_with fail
      go_ret
      exact ⟨rfl, HBS.out⟩
    · have j2 : ¬ (30 : Int) < (l2.length : Int) := by omega
      have H30 := Lib.hid (And.intro h1 h2)
      clear h1 h2 hlm1 hlm2
      go_wp2_with fail
      clear j1 j2
      go_loopw [5, 24] (fun sv iv wr => ∃ (k : Nat) (v : Value) (vals : List (Sc.Op × Value × Value)), k ≤ l1.length ∧ iv = .int .i64 (k : Int) ∧ v = sv ∧ wr.ownsRow w1.heap.size 53 8 v k (vals.flatMap opE) ∧ vals.map (·.1) = (l1.take k).map rawE ∧ (∀ e ∈ vals, okE wr e ∧ away wr e v.ownBlock) ∧ Below w1.heap.size w1 wr) (fun _ iv _ => l1.length - (intOf iv).toNat)
      case atStart => exact ⟨0, _, [], by omega, rfl, rfl, ⟨rfl, .inl ⟨rfl, rfl⟩⟩, rfl, (fun e he => by cases he), Below.refl _ _⟩
      case round =>
        obtain ⟨k, sv, vals1, hk, rfl, rfl, hown, hvals, hall, BB⟩ := hrel
        have h30 := H30.out
        have HOW1 := Lib.hid hown
        have HVA1 := Lib.hid hvals
        have HAL1 := Lib.hid hall
        have HB1 := Lib.hid BB
        have HBZ := Lib.hid (Below.trans HBS.out (below_base BB HBS.out.size))
        clear hown hvals hall BB
        by_cases hlt : k < l1.length
        · have i0 : (0 : Int) ≤ (k : Int) := by omega
          have i1 : (k : Int) < (l1.length : Int) := by omega
          obtain ⟨b, off, rfl, hcc⟩ : ∃ b off, a1 = some ⟨b, off, none⟩ ∧ ∀ i, i < l1.length → w.rangeAt b (off + i * 7) (ovE (l1.getD i o0)) := by
            rcases HE1.out with h | h
            · rw [h] at hlt; simp at hlt
            · exact h
          have ck := range_below (hcc k hlt) HBZ.out
          have hq := okO_below (HO1.out _ (getD_mem (d := o0) hlt)) HBZ.out
          have htk : (l1.take (k + 1)).map rawE = (l1.take k).map rawE ++ [rawE (l1.getD k o0)] := by
            rw [List.take_succ_eq_append_getElem hlt, List.map_append, List.getD_eq_getElem?_getD, List.getElem?_eq_getElem hlt]
            rfl
          obtain ⟨q, hqq⟩ : ∃ q, q = l1.getD k o0 := ⟨_, rfl⟩
          rw [← hqq] at ck hq htk
          obtain ⟨x, vp, vl⟩ := q
          have htk : (l1.take (k + 1)).map rawE = (l1.take k).map rawE ++ [Sc.raw x] := htk
          have hrc := Sc.raw_can x hq.1
          have HQ := Lib.hid hq
          have HTK := Lib.hid htk
          have HRC := Lib.hid hrc
          have HLT := Lib.hid hlt
          have e9 : IntKind.i64.wrap ((k : Int) + 1) = (k : Int) + 1 := by rw [IntKind.wrap_i64]; omega
          have c0 : wr.cell? ⟨b, off + k * 7, none⟩ = some (.int .u8 (x.kind : Int)) := ck 0 _ rfl
          have c1 : wr.cell? ⟨b, off + k * 7 + 1, none⟩ = some (.int .u8 (x.a : Int)) := ck 1 _ rfl
          have c2 : wr.cell? ⟨b, off + k * 7 + 2, none⟩ = some (.int .u8 (x.b : Int)) := ck 2 _ rfl
          have c3 : wr.cell? ⟨b, off + k * 7 + 3, none⟩ = some (.int .u8 (x.nm : Int)) := ck 3 _ rfl
          have c4 : wr.cell? ⟨b, off + k * 7 + 4, none⟩ = some vp := ck 4 _ rfl
          have c5 : wr.cell? ⟨b, off + k * 7 + 5, none⟩ = some (.int .i16 x.first) := ck 5 _ rfl
          have c6 : wr.cell? ⟨b, off + k * 7 + 6, none⟩ = some vl := ck 6 _ rfl
          clear hlt hcc ck hq htk hrc hqq
          obtain ⟨pp, np, cp, rfl⟩ : ∃ p n c, vp = .slice p n c := by obtain ⟨p, c, e, _⟩ := HQ.out.2.1; exact ⟨_, _, _, e⟩
          obtain ⟨ps, ns, cs, rfl⟩ : ∃ p n c, vl = .slice p n c := by obtain ⟨p, c, e, _⟩ := HQ.out.2.2; exact ⟨_, _, _, e⟩
          go_wp2_with fail
          have BA := below_alloc (Below.refl _ wr) (.cells (ov x (.slice pp np cp) (.slice ps ns cs)).toArray 46)
          have hqa := okO_below HQ.out BA
          refine (raw_any x HQ.out.1 _ _ (wr.alloc (.cells (ov x (.slice pp np cp) (.slice ps ns cs)).toArray 46)) hqa.2.1 hqa.2.2).mono ?_
          rintro _ w2' ⟨v1, v2, rfl, hp, hn, hf1, hf2, hb2⟩
          have B2 := below_then BA hb2
          have hsz2 := BA.size
          have hsz3 := B2.size
          obtain ⟨q1, m1, y1, rfl⟩ : ∃ p n c, v1 = .slice p n c := by obtain ⟨p, c, e, _⟩ := hp; exact ⟨_, _, _, e⟩
          obtain ⟨q2, m2, y2, rfl⟩ : ∃ p n c, v2 = .slice p n c := by obtain ⟨p, c, e, _⟩ := hn; exact ⟨_, _, _, e⟩
          obtain ⟨ro, hro⟩ : ∃ o, o = Sc.raw x := ⟨_, rfl⟩
          rw [← hro] at hp hn HRC HTK ⊢
          have haw : ∀ g, ((Value.slice q1 m1 y1).ownBlock = some g ∨ (Value.slice q2 m2 y2).ownBlock = some g) → g < w2'.heap.size ∧ sv.ownBlock ≠ some g := fun g hg => by
            have h1 : (wr.alloc (.cells (ov x (.slice pp np cp) (.slice ps ns cs)).toArray 46)).heap.size ≤ g ∧ g < w2'.heap.size := by
              rcases hg with hg | hg
              · exact hf1 g hg
              · exact hf2 g hg
            refine ⟨h1.2, fun e => ?_⟩
            have := (ownW_lt HOW1.out e).2
            omega
          have hall2 : ∀ e ∈ vals1 ++ [(ro, Value.slice q1 m1 y1, Value.slice q2 m2 y2)], okE w2' e ∧ ∀ g, (e.2.1.ownBlock = some g ∨ e.2.2.ownBlock = some g) → g < w2'.heap.size ∧ sv.ownBlock ≠ some g := fun e he => by
            rcases List.mem_append.1 he with he | he
            · exact ⟨okE_below (HAL1.out e he).1 B2, fun g hg => by have := (HAL1.out e he).2 g hg; exact ⟨by omega, this.2⟩⟩
            · obtain rfl := List.mem_singleton.1 he
              exact ⟨⟨HRC.out, hp, hn⟩, haw⟩
          have BAy := below_alloc (Below.refl _ w2') (.cells #[.int .i64 (ro.kind : Int), .int .u32 (ro.fr : Int), .int .u32 (ro.too : Int), .string ⟨ro.name.toArray⟩, .slice q1 m1 y1, .slice q2 m2 y2, .int .i32 ro.fin, .int .i64 (ro.pos : Int)] 53)
          have BYW := below_alloc (below_then HB1.out B2) (.cells #[.int .i64 (ro.kind : Int), .int .u32 (ro.fr : Int), .int .u32 (ro.too : Int), .string ⟨ro.name.toArray⟩, .slice q1 m1 y1, .slice q2 m2 y2, .int .i32 ro.fin, .int .i64 (ro.pos : Int)] 53)
          obtain ⟨v6, w6, hr6, ho6, hb6, hk6, hv6, hsz6⟩ := append_op (w2'.alloc (.cells #[.int .i64 (ro.kind : Int), .int .u32 (ro.fr : Int), .int .u32 (ro.too : Int), .string ⟨ro.name.toArray⟩, .slice q1 m1 y1, .slice q2 m2 y2, .int .i32 ro.fin, .int .i64 (ro.pos : Int)] 53)) w1.heap.size 41 sv k vals1 (own_alloc (ownW_below HOW1.out B2) _) w2'.heap.size ro q1 q2 m1 m2 y1 y2 (Row.new w2' _ _) (by omega) BYW.size
          have hs2 := BAy.size
          have hall6 : ∀ e ∈ vals1 ++ [(ro, Value.slice q1 m1 y1, Value.slice q2 m2 y2)], okE w6 e ∧ away w6 e v6.ownBlock := fun e he => by
            have key := hall2 e he
            refine ⟨okE_kept (okE_below key.1 BAy) (o := sv.ownBlock) (fun g hg => by have := key.2 g hg; exact ⟨by omega, this.2⟩) hk6, fun g hg => ?_⟩
            have hgg := key.2 g hg
            refine ⟨by omega, ?_⟩
            rcases hv6 with e | e
            · rw [e]; exact hgg.2
            · rw [e]; intro e2; injection e2 with e2; omega
          have HALL6 := Lib.hid hall6
          have HOW6 := Lib.hid ho6
          have HB6 := Lib.hid (BYW.trans hb6)
          have HR6 := Lib.hid hr6
          clear hr6 ho6 hb6 hk6 hv6 hsz6 hall6 BAy BYW hs2 hall2 haw hro hsz2 hsz3 hp hn hf1 hf2 hb2 B2 BA hqa c0 c1 c2 c3 c4 c5 c6 h30 hk
          unfold opc
          go_wp2_with (first | (at_builtin; refine ev_run rfl (run_app_op _ _ _ _ rfl rfl rfl HR6.out) ?_))
          refine ⟨⟨k + 1, _, vals1 ++ [(ro, .slice q1 m1 y1, .slice q2 m2 y2)], by have := HLT.out; omega, by simp, rfl, HOW6.out, by rw [HTK.out, List.map_append, HVA1.out]; rfl, HALL6.out, HB6.out⟩, by have := HLT.out; simp [intOf]; omega⟩
        · have i1 : ¬ (k : Int) < (l1.length : Int) := by omega
          obtain rfl : k = l1.length := by omega
          clear hlt hk
          have h30 := h30
          have HBT := HBZ
          go_wp2_with fail
          clear i1
          obtain ⟨w2, hw2⟩ : ∃ x, x = wr := ⟨_, rfl⟩
          rw [← hw2] at HOW1 HAL1 HB1 HBT ⊢
          clear HBZ hw2 h30
          go_loopw [6, 36] (fun sv iv wr => ∃ (k : Nat) (v : Value) (vals : List (Sc.Op × Value × Value)), k ≤ l2.length ∧ iv = .int .i64 (k : Int) ∧ v = sv ∧ wr.ownsRow w2.heap.size 53 8 v k (vals.flatMap opE) ∧ vals.map (·.1) = (l2.take k).map rawE ∧ (∀ e ∈ vals, okE wr e ∧ away wr e v.ownBlock) ∧ Below w2.heap.size w2 wr) (fun _ iv _ => l2.length - (intOf iv).toNat)
          case atStart => exact ⟨0, _, [], by omega, rfl, rfl, ⟨rfl, .inl ⟨rfl, rfl⟩⟩, rfl, (fun e he => by cases he), Below.refl _ _⟩
          case round =>
            obtain ⟨k, sv, vals2, hk, rfl, rfl, hown, hvals, hall, BB⟩ := hrel
            have h30 := H30.out
            have HOW2 := Lib.hid hown
            have HVA2 := Lib.hid hvals
            have HAL2 := Lib.hid hall
            have HB2 := Lib.hid BB
            have HBZ := Lib.hid (Below.trans HBT.out (below_base BB HBT.out.size))
            clear hown hvals hall BB
            by_cases hlt : k < l2.length
            · have i0 : (0 : Int) ≤ (k : Int) := by omega
              have i1 : (k : Int) < (l2.length : Int) := by omega
              obtain ⟨b, off, rfl, hcc⟩ : ∃ b off, a2 = some ⟨b, off, none⟩ ∧ ∀ i, i < l2.length → w.rangeAt b (off + i * 7) (ovE (l2.getD i o0)) := by
                rcases HE2.out with h | h
                · rw [h] at hlt; simp at hlt
                · exact h
              have ck := range_below (hcc k hlt) HBZ.out
              have hq := okO_below (HO2.out _ (getD_mem (d := o0) hlt)) HBZ.out
              have htk : (l2.take (k + 1)).map rawE = (l2.take k).map rawE ++ [rawE (l2.getD k o0)] := by
                rw [List.take_succ_eq_append_getElem hlt, List.map_append, List.getD_eq_getElem?_getD, List.getElem?_eq_getElem hlt]
                rfl
              obtain ⟨q, hqq⟩ : ∃ q, q = l2.getD k o0 := ⟨_, rfl⟩
              rw [← hqq] at ck hq htk
              obtain ⟨x, vp, vl⟩ := q
              have htk : (l2.take (k + 1)).map rawE = (l2.take k).map rawE ++ [Sc.raw x] := htk
              have hrc := Sc.raw_can x hq.1
              have HQ := Lib.hid hq
              have HTK := Lib.hid htk
              have HRC := Lib.hid hrc
              have HLT := Lib.hid hlt
              have e9 : IntKind.i64.wrap ((k : Int) + 1) = (k : Int) + 1 := by rw [IntKind.wrap_i64]; omega
              have c0 : wr.cell? ⟨b, off + k * 7, none⟩ = some (.int .u8 (x.kind : Int)) := ck 0 _ rfl
              have c1 : wr.cell? ⟨b, off + k * 7 + 1, none⟩ = some (.int .u8 (x.a : Int)) := ck 1 _ rfl
              have c2 : wr.cell? ⟨b, off + k * 7 + 2, none⟩ = some (.int .u8 (x.b : Int)) := ck 2 _ rfl
              have c3 : wr.cell? ⟨b, off + k * 7 + 3, none⟩ = some (.int .u8 (x.nm : Int)) := ck 3 _ rfl
              have c4 : wr.cell? ⟨b, off + k * 7 + 4, none⟩ = some vp := ck 4 _ rfl
              have c5 : wr.cell? ⟨b, off + k * 7 + 5, none⟩ = some (.int .i16 x.first) := ck 5 _ rfl
              have c6 : wr.cell? ⟨b, off + k * 7 + 6, none⟩ = some vl := ck 6 _ rfl
              clear hlt hcc ck hq htk hrc hqq
              obtain ⟨pp, np, cp, rfl⟩ : ∃ p n c, vp = .slice p n c := by obtain ⟨p, c, e, _⟩ := HQ.out.2.1; exact ⟨_, _, _, e⟩
              obtain ⟨ps, ns, cs, rfl⟩ : ∃ p n c, vl = .slice p n c := by obtain ⟨p, c, e, _⟩ := HQ.out.2.2; exact ⟨_, _, _, e⟩
              go_wp2_with fail
              have BA := below_alloc (Below.refl _ wr) (.cells (ov x (.slice pp np cp) (.slice ps ns cs)).toArray 46)
              have hqa := okO_below HQ.out BA
              refine (raw_any x HQ.out.1 _ _ (wr.alloc (.cells (ov x (.slice pp np cp) (.slice ps ns cs)).toArray 46)) hqa.2.1 hqa.2.2).mono ?_
              rintro _ w2' ⟨v1, v2, rfl, hp, hn, hf1, hf2, hb2⟩
              have B2 := below_then BA hb2
              have hsz2 := BA.size
              have hsz3 := B2.size
              obtain ⟨q1, m1, y1, rfl⟩ : ∃ p n c, v1 = .slice p n c := by obtain ⟨p, c, e, _⟩ := hp; exact ⟨_, _, _, e⟩
              obtain ⟨q2, m2, y2, rfl⟩ : ∃ p n c, v2 = .slice p n c := by obtain ⟨p, c, e, _⟩ := hn; exact ⟨_, _, _, e⟩
              obtain ⟨ro, hro⟩ : ∃ o, o = Sc.raw x := ⟨_, rfl⟩
              rw [← hro] at hp hn HRC HTK ⊢
              have haw : ∀ g, ((Value.slice q1 m1 y1).ownBlock = some g ∨ (Value.slice q2 m2 y2).ownBlock = some g) → g < w2'.heap.size ∧ sv.ownBlock ≠ some g := fun g hg => by
                have h1 : (wr.alloc (.cells (ov x (.slice pp np cp) (.slice ps ns cs)).toArray 46)).heap.size ≤ g ∧ g < w2'.heap.size := by
                  rcases hg with hg | hg
                  · exact hf1 g hg
                  · exact hf2 g hg
                refine ⟨h1.2, fun e => ?_⟩
                have := (ownW_lt HOW2.out e).2
                omega
              have hall2 : ∀ e ∈ vals2 ++ [(ro, Value.slice q1 m1 y1, Value.slice q2 m2 y2)], okE w2' e ∧ ∀ g, (e.2.1.ownBlock = some g ∨ e.2.2.ownBlock = some g) → g < w2'.heap.size ∧ sv.ownBlock ≠ some g := fun e he => by
                rcases List.mem_append.1 he with he | he
                · exact ⟨okE_below (HAL2.out e he).1 B2, fun g hg => by have := (HAL2.out e he).2 g hg; exact ⟨by omega, this.2⟩⟩
                · obtain rfl := List.mem_singleton.1 he
                  exact ⟨⟨HRC.out, hp, hn⟩, haw⟩
              have BAy := below_alloc (Below.refl _ w2') (.cells #[.int .i64 (ro.kind : Int), .int .u32 (ro.fr : Int), .int .u32 (ro.too : Int), .string ⟨ro.name.toArray⟩, .slice q1 m1 y1, .slice q2 m2 y2, .int .i32 ro.fin, .int .i64 (ro.pos : Int)] 53)
              have BYW := below_alloc (below_then HB2.out B2) (.cells #[.int .i64 (ro.kind : Int), .int .u32 (ro.fr : Int), .int .u32 (ro.too : Int), .string ⟨ro.name.toArray⟩, .slice q1 m1 y1, .slice q2 m2 y2, .int .i32 ro.fin, .int .i64 (ro.pos : Int)] 53)
              obtain ⟨v6, w6, hr6, ho6, hb6, hk6, hv6, hsz6⟩ := append_op (w2'.alloc (.cells #[.int .i64 (ro.kind : Int), .int .u32 (ro.fr : Int), .int .u32 (ro.too : Int), .string ⟨ro.name.toArray⟩, .slice q1 m1 y1, .slice q2 m2 y2, .int .i32 ro.fin, .int .i64 (ro.pos : Int)] 53)) w2.heap.size 41 sv k vals2 (own_alloc (ownW_below HOW2.out B2) _) w2'.heap.size ro q1 q2 m1 m2 y1 y2 (Row.new w2' _ _) (by omega) BYW.size
              have hs2 := BAy.size
              have hall6 : ∀ e ∈ vals2 ++ [(ro, Value.slice q1 m1 y1, Value.slice q2 m2 y2)], okE w6 e ∧ away w6 e v6.ownBlock := fun e he => by
                have key := hall2 e he
                refine ⟨okE_kept (okE_below key.1 BAy) (o := sv.ownBlock) (fun g hg => by have := key.2 g hg; exact ⟨by omega, this.2⟩) hk6, fun g hg => ?_⟩
                have hgg := key.2 g hg
                refine ⟨by omega, ?_⟩
                rcases hv6 with e | e
                · rw [e]; exact hgg.2
                · rw [e]; intro e2; injection e2 with e2; omega
              have HALL6 := Lib.hid hall6
              have HOW6 := Lib.hid ho6
              have HB6 := Lib.hid (BYW.trans hb6)
              have HR6 := Lib.hid hr6
              clear hr6 ho6 hb6 hk6 hv6 hsz6 hall6 BAy BYW hs2 hall2 haw hro hsz2 hsz3 hp hn hf1 hf2 hb2 B2 BA hqa c0 c1 c2 c3 c4 c5 c6 h30 hk
              unfold opc
              go_wp2_with (first | (at_builtin; refine ev_run rfl (run_app_op _ _ _ _ rfl rfl rfl HR6.out) ?_))
              refine ⟨⟨k + 1, _, vals2 ++ [(ro, .slice q1 m1 y1, .slice q2 m2 y2)], by have := HLT.out; omega, by simp, rfl, HOW6.out, by rw [HTK.out, List.map_append, HVA2.out]; rfl, HALL6.out, HB6.out⟩, by have := HLT.out; simp [intOf]; omega⟩
            · have i1 : ¬ (k : Int) < (l2.length : Int) := by omega
              obtain rfl : k = l2.length := by omega
              clear hlt hk
              have hva1 := HVA1.out
              have hva2 := HVA2.out
              rw [List.take_length] at hva1 hva2
              have hl1 : vals1.length = l1.length := by have := congrArg List.length hva1; simpa using this
              have hl2 : vals2.length = l2.length := by have := congrArg List.length hva2; simpa using this
              have how1 := ownW_below HOW1.out HB2.out
              have hal1 : ∀ e ∈ vals1, okE wr e := fun e he => okE_below (HAL1.out e he).1 HB2.out
              have hal2 : ∀ e ∈ vals2, okE wr e := fun e he => (HAL2.out e he).1
              have HAA := Lib.hid (And.intro hal1 hal2)
              have HVV := Lib.hid (And.intro hva1 hva2)
              have HLL := Lib.hid (And.intro hl1 hl2)
              have HOA := Lib.hid how1
              have hcl := clone_ops wr _ _ l1.length vals1 how1 (fun e he => okE_slc (hal1 e he)) (by omega)
              have HCL := Lib.hid hcl
              clear hva1 hva2 hl1 hl2 how1 hal1 hal2 hcl h30
              go_wp2_with fail
              refine HCL.out.mono ?_
              rintro _ w3 ⟨vC, rfl, hoC, hb3⟩
              have h30 := H30.out
              obtain ⟨v6, w6, hr6, ho6, hb6, _⟩ := append_own2 w3 wr.heap.size 41 vC _ l1.length l2.length vals1 vals2 hoC (ownW_below HOW2.out hb3) (fun e he => okE_slc (HAA.out.2 e he)) (by omega) hb3.size
              have B6 := hb3.trans hb6
              have HB6 := Lib.hid B6
              obtain ⟨hl6, p6, c6, rfl, hE6⟩ := els_ownG opE 8 opE0 (fun _ => rfl) (by omega) ho6
              have HR6 := Lib.hid hr6
              have HM6 := Lib.hid (HM.out.below (below_then HBZ.out B6))
              have HP6 := Lib.hid (print_any (vals1 ++ vals2) p6 c6 w6 hE6 (fun e he => by
                rcases List.mem_append.1 he with he | he
                · exact okE_below (HAA.out.1 e he) B6
                · exact okE_below (HAA.out.2 e he) B6) (by rw [hl6]; omega) HM6.out)
              rw [hl6] at HR6 HP6
              clear hoC hb3 hr6 ho6 hb6 B6 hE6 hl6 h30
              go_wp2_with (first | (at_builtin; refine ev_run rfl (run_app_op _ _ _ _ rfl rfl rfl HR6.out) ?_))
              refine HP6.out.mono ?_
              rintro _ w7 ⟨rfl, hb7⟩
              have B7 := below_then HB6.out hb7
              obtain ⟨hlA, pA, cA, rfl, hEA⟩ := els_ownG opE 8 opE0 (fun _ => rfl) (by omega) HOA.out
              obtain ⟨hlB, pB, cB, rfl, hEB⟩ := els_ownG opE 8 opE0 (fun _ => rfl) (by omega) HOW2.out
              have h30 := H30.out
              have HM7 := HM6.out.below hb7
              have HPA := Lib.hid (print_any vals1 pA cA w7 (hEA.below B7) (fun e he => okE_below (HAA.out.1 e he) B7) (by omega) HM7)
              have hcan1 : ∀ o ∈ vals1.map (·.1), o.can := fun o ho => by
                obtain ⟨e, he, rfl⟩ := List.mem_map.1 ho
                exact (HAA.out.1 e he).1
              have hcan2 : ∀ o ∈ vals2.map (·.1), o.can := fun o ho => by
                obtain ⟨e, he, rfl⟩ := List.mem_map.1 ho
                exact (HAA.out.2 e he).1
              have hn1 := print_len _ hcan1
              have hn2 := print_len _ hcan2
              rw [List.length_map] at hn1 hn2
              have hpj : Sc.print Dy.text ((vals1 ++ vals2).map (·.1)) = Sc.print Dy.text (vals1.map (·.1)) ++ Sc.print Dy.text (vals2.map (·.1)) := by
                unfold Sc.print
                rw [List.map_append, List.flatMap_append]
              have hcl : ∀ o ∈ (vals1 ++ vals2).map (·.1), Sc.cl o.name := fun o ho => by
                rw [List.map_append, HVV.out.1, HVV.out.2] at ho
                rcases List.mem_append.1 ho with ho | ho
                all_goals
                  obtain ⟨e, _, rfl⟩ := List.mem_map.1 ho
                  exact Sc.raw_cl _
              have hct := Sc.print_count _ hcl
              rw [List.length_map, List.length_append, HLL.out.1, HLL.out.2] at hct
              obtain ⟨pj, hpjj⟩ : ∃ t, t = Sc.print Dy.text ((vals1 ++ vals2).map (·.1)) := ⟨_, rfl⟩
              obtain ⟨t1, ht1⟩ : ∃ t, t = Sc.print Dy.text (vals1.map (·.1)) := ⟨_, rfl⟩
              obtain ⟨t2, ht2⟩ : ∃ t, t = Sc.print Dy.text (vals2.map (·.1)) := ⟨_, rfl⟩
              rw [← hpjj] at hct hpj ⊢
              rw [← ht1] at hn1 hpj HPA
              rw [← ht2] at hn2 hpj
              have hcat : (⟨t1.toArray⟩ : ByteArray) ++ ⟨t2.toArray⟩ = ⟨pj.toArray⟩ := by
                rw [hpj]
                apply ByteArray.ext
                simp
              have hsz : t1.length + t2.length ≤ 9223372036854775807 := by omega
              have HB7 := Lib.hid B7
              have HSZ := Lib.hid hsz
              have HCAT := Lib.hid hcat
              have HCT := Lib.hid hct
              have HT2 := Lib.hid ht2
              have HEB := Lib.hid hEB
              have HM7' := Lib.hid HM7
              have HLB := Lib.hid (show vals2.length ≤ 100 by omega)
              clear hcan1 hcan2 hn1 hn2 hpj hcl hct hpjj ht1 ht2 hcat hsz B7 HM7 hEA hEB hb7 hlA hlB h30
              go_wp2_with fail
              refine HPA.out.mono ?_
              rintro _ w8 ⟨rfl, hb8⟩
              have HB8 := Lib.hid (below_then HB7.out hb8)
              have hpb := print_any vals2 pB cB w8 (HEB.out.below HB8.out) (fun e he => okE_below (HAA.out.2 e he) HB8.out) HLB.out (HM7'.out.below hb8)
              rw [← HT2.out] at hpb
              have HPB := Lib.hid hpb
              clear hb8 hpb
              go_wp2_with fail
              refine HPB.out.mono ?_
              rintro _ w9 ⟨rfl, hb9⟩
              have HB9 := Lib.hid (below_then HB8.out hb9)
              have k1 := Any.strings_Count_one Tryz.lays138 ⟨pj.toArray⟩ 10 w9
              have k2 := Any.strings_Count_one Tryz.lays138 ⟨pj.toArray⟩ 59 w9
              have e1 : (Lib.countByte (⟨pj.toArray⟩ : ByteArray).data.toList 10) = l1.length + l2.length := by
                rw [← HCT.out.2]
                rfl
              have e2 : (Lib.countByte (⟨pj.toArray⟩ : ByteArray).data.toList 59) = l1.length + l2.length := by
                rw [← HCT.out.1]
                rfl
              rw [e1] at k1
              rw [e2] at k2
              have K1 := Lib.hid k1
              have K2 := Lib.hid k2
              have h30 := H30.out
              have hsz := HSZ.out
              have hcat := HCAT.out
              have e3 : IntKind.i64.wrap ((l1.length : Int) + (l2.length : Int)) = ((l1.length + l2.length : Nat) : Int) := by rw [IntKind.wrap_i64]; omega
              clear hb9 k1 k2 e1 e2 h30
              go_wp2_with fail
              refine K1.out.mono ?_
              rintro _ _ ⟨rfl, rfl⟩
              go_wp2_with fail
              refine K2.out.mono ?_
              rintro _ _ ⟨rfl, rfl⟩
              go_wp2_with fail
              go_ret
              exact ⟨rfl, below_then HBZ.out HB9.out⟩
end Go.Proofs.YtbnhodpbamijkaaGreatDoor

namespace Go.Proofs.YtbnhodpbamijkaaGreatDoor
open Go.RowKit
set_option linter.unusedVariables false
set_option linter.unusedSimpArgs false

set_option maxHeartbeats 2000000 in
set_option maxRecDepth 100000 in
theorem equal_days (p1 p2 : Option Addr) (c1 c2 : Nat) (l m : List (Int)) (w : World) (h1 : (l = [] ∨ ∃ b off, p1 = some ⟨b, off, none⟩ ∧ ∀ i, i < l.length → w.cell? ⟨b, off + i, none⟩ = some (.int .i32 (l.getD i 0)))) (h2 : (m = [] ∨ ∃ b off, p2 = some ⟨b, off, none⟩ ∧ ∀ i, i < m.length → w.cell? ⟨b, off + i, none⟩ = some (.int .i32 (m.getD i 0)))) (hl : l.length ≤ 1000000) :
    Calls Tryz.prog 91 #[.slice p1 l.length c1, .slice p2 m.length c2] w fun e w' => e = .returned (.bool (decide (l = m))) ∧ Below w.heap.size w w' := by
  have H1 := Lib.hid h1
  have H2 := Lib.hid h2
  have HL := Lib.hid hl
  clear h1 h2 hl
  by_cases hlm : l.length = m.length
  · have HLM := Lib.hid hlm
    have j0 : (m.length : Int) = (l.length : Int) := by omega
    rw [← hlm]
    clear j0 hlm
    go_enter Tryz.func91, Tryz.ntmps91
    go_wp2_with fail
    go_loopw [13] (fun i wr => ∃ k : Nat, k ≤ l.length ∧ i = .int .i64 k ∧ l.take k = m.take k ∧ Below w.heap.size w wr) (fun i _ => l.length - (intOf i).toNat)
    case atStart => exact ⟨0, by omega, rfl, rfl, Below.refl _ _⟩
    case round =>
    obtain ⟨k, hk, rfl, htk, BB⟩ := hrel
    have HBB := Lib.hid BB
    have HTK := Lib.hid htk
    have hlm := HLM.out
    clear BB htk
    by_cases hlt : k < l.length
    · have hk1 : (0 : Int) ≤ (k : Int) := by omega
      have hk2 : (k : Int) < (l.length : Int) := by omega
      obtain ⟨b1, o1, rfl, e1⟩ : ∃ b off, p1 = some ⟨b, off, none⟩ ∧ ∀ i, i < l.length → w.cell? ⟨b, off + i, none⟩ = some (.int .i32 (l.getD i 0)) := by
        rcases H1.out with h | h
        · exact absurd hlt (by rw [h]; simp)
        · exact h
      obtain ⟨b2, o2, rfl, e2⟩ : ∃ b off, p2 = some ⟨b, off, none⟩ ∧ ∀ i, i < m.length → w.cell? ⟨b, off + i, none⟩ = some (.int .i32 (m.getD i 0)) := by
        rcases H2.out with h | h
        · exact absurd hlt (by rw [hlm, h]; simp)
        · exact h
      obtain ⟨x, hx⟩ : ∃ x, x = l.getD k 0 := ⟨_, rfl⟩
      obtain ⟨y, hy⟩ : ∃ y, y = m.getD k 0 := ⟨_, rfl⟩
      have e1k := e1 k hlt
      have e2k := e2 k (by omega)
      rw [← hx] at e1k
      rw [← hy] at e2k
      have d0 : ∀ n : QW (fun w' => Below wr.heap.size wr w'), n.w.cell? ⟨b1, o1 + k, none⟩ = some (.int .i32 x) := fun n => cell_then e1k (below_then HBB.out n.h)
      have f0 : ∀ n : QW (fun w' => Below wr.heap.size wr w'), n.w.cell? ⟨b2, o2 + k, none⟩ = some (.int .i32 y) := fun n => cell_then e2k (below_then HBB.out n.h)
      have hstep : l.take (k + 1) = l.take k ++ [x] ∧ m.take (k + 1) = m.take k ++ [y] := by
        rw [hx, hy, List.getD_eq_getElem?_getD, List.getD_eq_getElem?_getD, List.getElem?_eq_getElem hlt, List.getElem?_eq_getElem (show k < m.length by omega), List.take_succ_eq_append_getElem hlt, List.take_succ_eq_append_getElem (show k < m.length by omega)]
        exact ⟨rfl, rfl⟩
      have HST := Lib.hid hstep
      have HLT := Lib.hid hlt
      clear e1 e2 e1k e2k hstep hx hy hlm
      by_cases hxy : x = y
      · subst hxy
        go_wp2_with fail
        refine region_quietS (fun w' => Below wr.heap.size wr w') (by kernel_rfl) (by kernel_rfl) (below_dr (Below.refl _ _)) (fun hne => ?_)
        repeat (go_big_quiet_step (fail))
        refine wpQuiet_nil ?_
        intro _ hw'
        obtain ⟨⟨wy, S⟩, rfl⟩ := hw'
        clear d0 f0
        have ev : IntKind.i64.wrap ((k : Int) + 1) = ((k + 1 : Nat) : Int) := by have := HL.out; rw [IntKind.wrap_i64]; omega
        go_wp2_with fail
        exact ⟨⟨k + 1, by have := HLT.out; omega, rfl, by rw [HST.out.1, HST.out.2, HTK.out], below_then HBB.out S⟩, by have := HLT.out; simp [intOf]; omega⟩
      · have hf : decide (l = m) = false := decide_eq_false (fun e => hxy (by
          have h1 := HST.out.1
          have h2 := HST.out.2
          rw [← e, h1] at h2
          simpa using h2))
        have hne2 : (decide (x = y)) = false := decide_eq_false hxy
        have hne3 : (x != y) = true := by simp [hxy]
        go_wp2_with fail
        refine region_quietS (fun w' => Below wr.heap.size wr w') (by kernel_rfl) (by kernel_rfl) (below_dr (Below.refl _ _)) (fun hne => ?_)
        repeat (go_big_quiet_step (fail))
        refine wpQuiet_nil ?_
        intro _ hw'
        obtain ⟨⟨wy, S⟩, rfl⟩ := hw'
        clear d0 f0
        go_wp2_with fail
        go_ret
        exact ⟨congrArg (fun b => Ending.returned (Value.bool b)) hf.symm, below_then HBB.out S⟩
    · obtain rfl : k = l.length := by omega
      have hk0 : ¬ ((l.length : Int) < (l.length : Int)) := by omega
      have ht : decide (l = m) = true := decide_eq_true (by have := HTK.out; rw [List.take_length, hlm, List.take_length] at this; exact this)
      clear hlm
      go_wp2
      go_ret
      first | exact ⟨rfl, HBB.out⟩ | exact ⟨congrArg (fun b => Ending.returned (Value.bool b)) ht.symm, HBB.out⟩
  · have hf : decide (l = m) = false := decide_eq_false (fun e => hlm (by rw [e]))
    rw [hf]
    have j1 : ¬ (l.length : Int) = (m.length : Int) := by omega
    go_enter Tryz.func91, Tryz.ntmps91
    go_wp2_with fail
    go_ret
    exact ⟨rfl, Below.refl _ _⟩
set_option maxHeartbeats 2000000 in
set_option maxRecDepth 100000 in
theorem equal_parts (p1 p2 : Option Addr) (c1 c2 : Nat) (l m : List (Nat × Nat)) (w : World) (h1 : (l = [] ∨ ∃ b off, p1 = some ⟨b, off, none⟩ ∧ ∀ i, i < l.length → w.rangeAt b (off + i * 2) (ptv (l.getD i (0, 0))))) (h2 : (m = [] ∨ ∃ b off, p2 = some ⟨b, off, none⟩ ∧ ∀ i, i < m.length → w.rangeAt b (off + i * 2) (ptv (m.getD i (0, 0))))) (hl : l.length ≤ 1000000) :
    Calls Tryz.prog 69 #[.slice p1 l.length c1, .slice p2 m.length c2] w fun e w' => e = .returned (.bool (decide (l = m))) ∧ Below w.heap.size w w' := by
  have H1 := Lib.hid h1
  have H2 := Lib.hid h2
  have HL := Lib.hid hl
  clear h1 h2 hl
  by_cases hlm : l.length = m.length
  · have HLM := Lib.hid hlm
    have j0 : (m.length : Int) = (l.length : Int) := by omega
    rw [← hlm]
    clear j0 hlm
    go_enter Tryz.func69, Tryz.ntmps69
    go_wp2_with fail
    go_loopw [13] (fun i wr => ∃ k : Nat, k ≤ l.length ∧ i = .int .i64 k ∧ l.take k = m.take k ∧ Below w.heap.size w wr) (fun i _ => l.length - (intOf i).toNat)
    case atStart => exact ⟨0, by omega, rfl, rfl, Below.refl _ _⟩
    case round =>
    obtain ⟨k, hk, rfl, htk, BB⟩ := hrel
    have HBB := Lib.hid BB
    have HTK := Lib.hid htk
    have hlm := HLM.out
    clear BB htk
    by_cases hlt : k < l.length
    · have hk1 : (0 : Int) ≤ (k : Int) := by omega
      have hk2 : (k : Int) < (l.length : Int) := by omega
      obtain ⟨b1, o1, rfl, e1⟩ : ∃ b off, p1 = some ⟨b, off, none⟩ ∧ ∀ i, i < l.length → w.rangeAt b (off + i * 2) (ptv (l.getD i (0, 0))) := by
        rcases H1.out with h | h
        · exact absurd hlt (by rw [h]; simp)
        · exact h
      obtain ⟨b2, o2, rfl, e2⟩ : ∃ b off, p2 = some ⟨b, off, none⟩ ∧ ∀ i, i < m.length → w.rangeAt b (off + i * 2) (ptv (m.getD i (0, 0))) := by
        rcases H2.out with h | h
        · exact absurd hlt (by rw [hlm, h]; simp)
        · exact h
      obtain ⟨x, hx⟩ : ∃ x, x = l.getD k (0, 0) := ⟨_, rfl⟩
      obtain ⟨y, hy⟩ : ∃ y, y = m.getD k (0, 0) := ⟨_, rfl⟩
      have e1k := e1 k hlt
      have e2k := e2 k (by omega)
      rw [← hx] at e1k
      rw [← hy] at e2k
      have d0 : ∀ n : QW (fun w' => Below wr.heap.size wr w'), n.w.cell? ⟨b1, o1 + k * 2, none⟩ = some (.int .u32 (x.1 : Int)) := fun n => range_below (range_below e1k HBB.out) n.h 0 _ rfl
      have d1 : ∀ n : QW (fun w' => Below wr.heap.size wr w'), n.w.cell? ⟨b1, o1 + k * 2 + 1, none⟩ = some (.int .i64 (x.2 : Int)) := fun n => range_below (range_below e1k HBB.out) n.h 1 _ rfl
      have f0 : ∀ n : QW (fun w' => Below wr.heap.size wr w'), n.w.cell? ⟨b2, o2 + k * 2, none⟩ = some (.int .u32 (y.1 : Int)) := fun n => range_below (range_below e2k HBB.out) n.h 0 _ rfl
      have f1 : ∀ n : QW (fun w' => Below wr.heap.size wr w'), n.w.cell? ⟨b2, o2 + k * 2 + 1, none⟩ = some (.int .i64 (y.2 : Int)) := fun n => range_below (range_below e2k HBB.out) n.h 1 _ rfl
      have hstep : l.take (k + 1) = l.take k ++ [x] ∧ m.take (k + 1) = m.take k ++ [y] := by
        rw [hx, hy, List.getD_eq_getElem?_getD, List.getD_eq_getElem?_getD, List.getElem?_eq_getElem hlt, List.getElem?_eq_getElem (show k < m.length by omega), List.take_succ_eq_append_getElem hlt, List.take_succ_eq_append_getElem (show k < m.length by omega)]
        exact ⟨rfl, rfl⟩
      have HST := Lib.hid hstep
      have HLT := Lib.hid hlt
      clear e1 e2 e1k e2k hstep hx hy hlm
      by_cases hxy : x = y
      · subst hxy
        go_wp2_with fail
        refine region_quietS (fun w' => Below wr.heap.size wr w') (by kernel_rfl) (by kernel_rfl) (below_dr (Below.refl _ _)) (fun hne => ?_)
        repeat (go_big_quiet_step (fail))
        refine wpQuiet_nil ?_
        intro _ hw'
        obtain ⟨⟨wy, S⟩, rfl⟩ := hw'
        clear d0 f0 d1 f1
        have ev : IntKind.i64.wrap ((k : Int) + 1) = ((k + 1 : Nat) : Int) := by have := HL.out; rw [IntKind.wrap_i64]; omega
        go_wp2_with fail
        exact ⟨⟨k + 1, by have := HLT.out; omega, rfl, by rw [HST.out.1, HST.out.2, HTK.out], below_then HBB.out S⟩, by have := HLT.out; simp [intOf]; omega⟩
      · have hf : decide (l = m) = false := decide_eq_false (fun e => hxy (by
          have h1 := HST.out.1
          have h2 := HST.out.2
          rw [← e, h1] at h2
          simpa using h2))
        by_cases n1 : x.1 = y.1
        · have n2 : ¬ x.2 = y.2 := fun e => hxy (Prod.ext n1 e)
          have n3 : ¬ (x.2 : Int) = (y.2 : Int) := by omega
          have n4 : (x.1 : Int) = (y.1 : Int) := by omega
          rw [n1] at d0
          go_wp2_with fail
          refine region_quietS (fun w' => Below wr.heap.size wr w') (by kernel_rfl) (by kernel_rfl) (below_dr (Below.refl _ _)) (fun hne => ?_)
          repeat (go_big_quiet_step (fail))
          refine wpQuiet_nil ?_
          intro _ hw'
          obtain ⟨⟨wy, S⟩, rfl⟩ := hw'
          clear d0 f0 d1 f1
          go_wp2_with fail
          go_ret
          exact ⟨congrArg (fun b => Ending.returned (Value.bool b)) hf.symm, below_then HBB.out S⟩
        · have n3 : ¬ (x.1 : Int) = (y.1 : Int) := by omega
          go_wp2_with fail
          refine region_quietS (fun w' => Below wr.heap.size wr w') (by kernel_rfl) (by kernel_rfl) (below_dr (Below.refl _ _)) (fun hne => ?_)
          repeat (go_big_quiet_step (fail))
          refine wpQuiet_nil ?_
          intro _ hw'
          obtain ⟨⟨wy, S⟩, rfl⟩ := hw'
          clear d0 f0 d1 f1
          go_wp2_with fail
          go_ret
          exact ⟨congrArg (fun b => Ending.returned (Value.bool b)) hf.symm, below_then HBB.out S⟩
    · obtain rfl : k = l.length := by omega
      have hk0 : ¬ ((l.length : Int) < (l.length : Int)) := by omega
      have ht : decide (l = m) = true := decide_eq_true (by have := HTK.out; rw [List.take_length, hlm, List.take_length] at this; exact this)
      clear hlm
      go_wp2
      go_ret
      first | exact ⟨rfl, HBB.out⟩ | exact ⟨congrArg (fun b => Ending.returned (Value.bool b)) ht.symm, HBB.out⟩
  · have hf : decide (l = m) = false := decide_eq_false (fun e => hlm (by rw [e]))
    rw [hf]
    have j1 : ¬ (l.length : Int) = (m.length : Int) := by omega
    go_enter Tryz.func69, Tryz.ntmps69
    go_wp2_with fail
    go_ret
    exact ⟨rfl, Below.refl _ _⟩
end Go.Proofs.YtbnhodpbamijkaaGreatDoor
