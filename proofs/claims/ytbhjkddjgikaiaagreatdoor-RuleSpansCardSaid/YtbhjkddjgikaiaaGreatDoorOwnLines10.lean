/-
  Own texts, several in one (Lines10, MakeB, Light).
-/
import Derived.Test.YtbhjkddjgikaiaaGreatDoorOwnMake7
import Derived.Test.YtbhjkddjgikaiaaGreatDoorMrg11
namespace Go.Proofs.YtbhjkddjgikaiaaGreatDoor
open Go.RowKit
set_option linter.unusedVariables false
set_option linter.unusedSimpArgs false
theorem MapIs.same {κ ν : Type} {P : Program} {k : TypeId} {enc : κ → Value} {vl : ν → Value} {b n : Nat} {G : κ → Option ν} {w w' : World} (h : MapIs w P k enc vl b n G) (e : w'.heap[b]? = w.heap[b]?) : MapIs w' P k enc vl b n G := by
  obtain ⟨es, clock, h1, h2⟩ := h
  exact ⟨es, clock, e.trans h1, h2⟩
theorem MapIs.notown {κ ν : Type} {P : Program} {k e : TypeId} {enc : κ → Value} {vl : ν → Value} {b n B m size : Nat} {G : κ → Option ν} {w : World} {v : Value} {xs : List Value} (h : MapIs w P k enc vl b n G) (ho : w.ownsRow B e size v m xs) : v.ownBlock ≠ some b := fun he => by
  obtain ⟨cs, h2⟩ := own_cells ho he
  obtain ⟨es, clock, h1, _⟩ := h
  have := h2.symm.trans h1
  simp at this
theorem own_same {w w' : World} {B n size : Nat} {e : TypeId} {v : Value} {xs : List Value} (h : w.ownsRow B e size v n xs) (hs : ∀ g, v.ownBlock = some g → w'.heap[g]? = w.heap[g]?) : w'.ownsRow B e size v n xs := by
  refine ⟨h.1, ?_⟩
  rcases h.2 with h2 | ⟨g, cap, cur, rfl, e2, e3, e4⟩
  · exact .inl h2
  · exact .inr ⟨g, cap, cur, rfl, e2, (hs g rfl).trans e3, e4⟩
def encI (z : Int) : Value := .int .i64 z
def amt10 (z : Int) : Int := if z.tmod 288230376151711744 = 0 then 1 else z.tmod 288230376151711744
def first10 (c : List Ac) (u : List Int) (x : L10) : Ln := { lineOf c u x with am := amt10 x.amt }
theorem amt10_bd (z : Int) : -288230376151711744 ≤ amt10 z ∧ amt10 z ≤ 288230376151711744 := by
  unfold amt10
  have h1 := Int.tmod_lt_of_pos z (show (0 : Int) < 288230376151711744 by omega)
  have h2 := Int.tmod_lt_of_pos (-z) (show (0 : Int) < 288230376151711744 by omega)
  rw [Int.neg_tmod] at h2
  split <;> omega
theorem tsum_bd2 (M : Int) (hM : 0 ≤ M) (s : List (Nat × Int)) (c : Nat) (h : ∀ x ∈ s, -M ≤ x.2 ∧ x.2 ≤ M) : -(M * (s.length : Int)) ≤ tsum s c ∧ tsum s c ≤ M * (s.length : Int) := by
  induction s with
  | nil => simp [tsum]
  | cons a s ih =>
    have hi := ih (fun x hx => h x (List.mem_cons_of_mem _ hx))
    have ha := h a List.mem_cons_self
    have e : tsum (a :: s) c = (if a.1 = c then a.2 else 0) + tsum s c := by
      unfold tsum
      by_cases q : a.1 = c <;> simp [List.filter_cons, q]
    have hl : M * ((a :: s).length : Int) = M * (s.length : Int) + M := by rw [List.length_cons]; push_cast; rw [Int.mul_add, Int.mul_one]
    rw [e, hl]
    split <;> omega
theorem append_ln (W : World) (B : Nat) (ty : TypeId) (v : Value) (n : Nat) (xs : List Ln) (hown : W.ownsRow B 207 4 v n (xs.flatMap ln)) (g : Nat) (z : Ln) (RG : Row W g (ln z).toArray 207) (hn : n ≤ 100000) (hB : B ≤ W.heap.size) :
    ∃ v' w', (Builtin.append_ #[86, 86] ty #[v, .slice (some ⟨g, 0, none⟩) 1 1]).run Tryz.prog W = .ok v' w' ∧ w'.ownsRow B 207 4 v' (n + 1) ((xs ++ [z]).flatMap ln) ∧ Below B W w' ∧ (∀ b, b < W.heap.size → v.ownBlock ≠ some b → w'.heap[b]? = W.heap[b]?) ∧ (v'.ownBlock = v.ownBlock ∨ v'.ownBlock = some W.heap.size) ∧ W.heap.size ≤ w'.heap.size := by
  have hi0 : (Tryz.prog.info? 207).map (fun i => (i.zero, i.size, i.bytes)) = some (some (.agg (ln ln0).toArray), 4, 16) := by kernel_rfl
  obtain ⟨i, hi, h⟩ := Option.map_eq_some_iff.1 hi0
  simp only [Prod.mk.injEq] at h
  obtain ⟨h1, h2, h3⟩ := h
  obtain ⟨v', w', hr, k2, k3, k4, k5⟩ := run_append_own_at (P := Tryz.prog) W B 86 ty 207 i (.agg (ln ln0).toArray) 4 16 Tryz.underlying86 hi h1 h2 h3 rfl (by omega) v n (xs.flatMap ln) hown ⟨g, 0, none⟩ 1 1 (ln z) rfl (fun j u hj => by
    rw [addr_add, Nat.zero_add, RG.cell j]
    simpa using hj) (fun u hu => by simp [ln] at hu; rcases hu with rfl | rfl | rfl | rfl <;> rfl) (by unfold maxLen; omega) (by omega) hB
  have hBB : Below B W w' := (Below.refl B W).grown k3 hB (fun k hk => (ownW_lt hown hk).1)
  exact ⟨v', w', hr, by rw [List.flatMap_append]; simpa using k2, hBB, fun b hb hne => k3.block b hb fun e => hne e.symm, k5, hBB.size⟩
def restAt (c : List Ac) (u : List Int) (s : List (Nat × Int)) (i : Nat) : List Ln :=
  if tsum s (u.getD i 0).toNat = 0 then [] else [⟨(c.getD (i % c.length) ac0).code, (u.getD i 0).toNat, 0, -tsum s (u.getD i 0).toNat⟩]
def restOf (c : List Ac) (u : List Int) (s : List (Nat × Int)) : Nat → List Ln
  | 0 => []
  | j + 1 => restOf c u s j ++ restAt c u s j
def linesOf (c : List Ac) (u : List Int) (ls : List L10) : List Ln := ls.map (first10 c u) ++ restOf c u ((ls.map (first10 c u)).map Ln.kv) u.length
theorem restOf_len (c : List Ac) (u : List Int) (s : List (Nat × Int)) : ∀ j, (restOf c u s j).length ≤ j
  | 0 => by simp [restOf]
  | j + 1 => by
    have := restOf_len c u s j
    have h : (restAt c u s j).length ≤ 1 := by unfold restAt; split <;> simp
    simp [restOf]
    omega
set_option maxHeartbeats 16000000 in
set_option maxRecDepth 100000 in
theorem lines_any (B : Nat) (c : List Ac) (u k : List Int) (cv uv kv : Value) (E later : Int) (pl : Option Addr) (cl : Nat) (ls : List L10) (w : World) (hF : FrOk B c u k w cv uv kv) (hB : B ≤ w.heap.size) (hc : 0 < c.length) (hcl : c.length ≤ 1000) (hu : 0 < u.length) (hul : u.length ≤ 1000) (hub : ∀ z ∈ u, 0 ≤ z ∧ z < 65536) (hEl : ElsAt l10 4 l100 w pl ls) (hok : ∀ x ∈ ls, x.ok) (hll : ls.length ≤ 8) :
    Calls Tryz.prog 81 #[.agg #[.int .u8 later, .slice pl ls.length cl], .agg #[cv, uv, kv, .int .i32 E]] w fun e w' => ∃ v, e = .returned v ∧ w'.ownsRow w.heap.size 207 4 v (linesOf c u ls).length ((linesOf c u ls).flatMap ln) ∧ Below w.heap.size w w' := by
  have HF := Lib.hid hF
  have HEL := Lib.hid hEl
  have HOK := Lib.hid hok
  have HC := Lib.hid (And.intro hc (And.intro hcl (And.intro hu (And.intro hul (And.intro hub (And.intro hll hB))))))
  obtain ⟨res, hres⟩ : ∃ r, r = linesOf c u ls := ⟨_, rfl⟩
  rw [← hres]
  have HRES := Lib.hid hres
  clear hres
  obtain ⟨hl1, p1, c1, hv1, hE1⟩ := els_ownG ac 4 ac0 (fun _ => rfl) (by decide) hF.1
  obtain ⟨⟨p2, c2, hv2, hE2⟩, _⟩ := NsAt.of_own hF.2.1
  subst hv1; subst hv2
  have HE1 := Lib.hid hE1
  have HE2 := Lib.hid hE2
  clear hE1 hE2 hl1
  obtain ⟨p3, c3, rfl⟩ := own_slice hF.2.2
  have B0 := below_alloc (below_alloc (Below.refl _ w) (.cells #[.int .u8 later, .slice pl ls.length cl] 150)) (.cells #[.slice p1 c.length c1, .slice p2 u.length c2, .slice p3 k.length c3, .int .i32 E] 67)
  have RJ := (Row.new w #[.int .u8 later, .slice pl ls.length cl] 150).alloc (.cells #[.slice p1 c.length c1, .slice p2 u.length c2, .slice p3 k.length c3, .int .i32 E] 67)
  have RF := Row.new' (w.alloc (.cells #[.int .u8 later, .slice pl ls.length cl] 150)) #[.slice p1 c.length c1, .slice p2 u.length c2, .slice p3 k.length c3, .int .i32 E] 67 (g := w.heap.size + 1) (by simp)
  have Z0 : ((w.alloc (.cells #[.int .u8 later, .slice pl ls.length cl] 150)).alloc (.cells #[.slice p1 c.length c1, .slice p2 u.length c2, .slice p3 k.length c3, .int .i32 E] 67)).heap.size = w.heap.size + 1 + 1 := by simp
  have mm : ∀ (t : TypeId) (W : World), (Instr.makeMap t none).run Tryz.prog W = .ok (.map (some W.heap.size)) (W.alloc (.map #[] 0)) := fun _ _ => rfl
  clear hF hEl hok hc hcl hu hul hub hll hB
  go_enter Tryz.func81, Tryz.ntmps81
  go_wp2_with fail
  generalize (w.alloc (.cells #[.int .u8 later, .slice pl ls.length cl] 150)).alloc (.cells #[.slice p1 c.length c1, .slice p2 u.length c2, .slice p3 k.length c3, .int .i32 E] 67) = w0 at *
  obtain ⟨b, hb⟩ : ∃ b, b = w.heap.size + 1 + 1 := ⟨_, rfl⟩
  obtain ⟨gf, hgf⟩ : ∃ g, g = w.heap.size + 1 := ⟨_, rfl⟩
  rw [← hb]
  rw [← hgf] at RF ⊢
  have hM0 := MapIs.new (κ := Nat) (ν := Int) w0 Tryz.prog 34 encU encI
  rw [Z0, ← hb] at hM0
  have B1 := below_alloc B0 (.map #[] 0)
  have RF1 := RF.alloc (.map #[] 0)
  have hbw : w.heap.size ≤ b := by omega
  have HBW := Lib.hid (And.intro hbw (show w.heap.size ≤ gf by omega))
  generalize w0.alloc (.map #[] 0) = w1 at *
  have HM0 := Lib.hid hM0
  have HRF := Lib.hid RF1
  have HB1 := Lib.hid B1
  clear hM0 RF1 B1 hbw RF RJ B0 Z0 hb hgf mm
  go_loopw [5, 16] (fun sv iv wr => ∃ i : Nat, i ≤ ls.length ∧ iv = .int .i64 (i : Int) ∧ wr.ownsRow w.heap.size 207 4 sv i (((ls.take i).map (first10 c u)).flatMap ln) ∧ MapIs wr Tryz.prog 34 encU encI b i (tG (((ls.take i).map (first10 c u)).map Ln.kv)) ∧ Row wr gf #[.slice p1 c.length c1, .slice p2 u.length c2, .slice p3 k.length c3, .int .i32 E] 67 ∧ Below w.heap.size w wr) (fun _ iv _ => ls.length - (intOf iv).toNat)
  case atStart => exact ⟨0, by omega, rfl, ⟨rfl, .inl ⟨rfl, rfl⟩⟩, by rw [List.take_zero]; exact HM0.out, HRF.out, HB1.out⟩
  case round =>
    obtain ⟨i, hi, rfl, hown, hM, hRF, BB⟩ := hrel
    obtain ⟨sp, sc, rfl⟩ := own_slice hown
    have HOW := Lib.hid hown
    have HM := Lib.hid hM
    have HRF2 := Lib.hid hRF
    have HB := Lib.hid BB
    clear hown hM hRF BB HM0 HRF HB1
    by_cases hlt : i < ls.length
    · have i0 : (0 : Int) ≤ (i : Int) := by omega
      have i1 : (i : Int) < (ls.length : Int) := by omega
      obtain ⟨bl, off, rfl, hcc⟩ : ∃ bl off, pl = some ⟨bl, off, none⟩ ∧ ∀ j, j < ls.length → w.rangeAt bl (off + j * 4) (l10 (ls.getD j l100)) := by
        rcases HEL.out with h | h
        · rw [h] at hlt; simp at hlt
        · exact h
      have ck := range_below (hcc i hlt) HB.out
      have hx := HOK.out _ (getD_mem (d := l100) hlt)
      have htk : (ls.take (i + 1)).map (first10 c u) = (ls.take i).map (first10 c u) ++ [first10 c u (ls.getD i l100)] := by
        rw [List.take_succ_eq_append_getElem hlt, List.map_append]
        simp [List.getD, hlt]
      obtain ⟨x, hxe⟩ : ∃ x, x = ls.getD i l100 := ⟨_, rfl⟩
      rw [← hxe] at ck hx htk
      obtain ⟨out, hout⟩ : ∃ o, o = (ls.take i).map (first10 c u) := ⟨_, rfl⟩
      have hoL : out.length = i := by rw [hout, List.length_map, List.length_take, Nat.min_eq_left hi]
      have hbd : ∀ q ∈ out.map Ln.kv, -288230376151711744 ≤ q.2 ∧ q.2 ≤ 288230376151711744 := fun q hq => by
        obtain ⟨z, hz, rfl⟩ := List.mem_map.1 hq
        rw [hout] at hz
        obtain ⟨z2, _, rfl⟩ := List.mem_map.1 hz
        exact amt10_bd z2.amt
      rw [← hout] at HOW HM htk
      have HTK := Lib.hid htk
      have HLT := Lib.hid (And.intro hlt (And.intro hoL hbd))
      have HX := Lib.hid hx
      have e0 : wr.cell? ⟨bl, off + i * 4, none⟩ = some (.int .u8 (x.acc : Int)) := ck 0 _ rfl
      have e1 : wr.cell? ⟨bl, off + i * 4 + 1, none⟩ = some (.int .u8 (x.ent : Int)) := ck 1 _ rfl
      have e2 : wr.cell? ⟨bl, off + i * 4 + 2, none⟩ = some (.int .u8 (x.cnt : Int)) := ck 2 _ rfl
      have e3 : wr.cell? ⟨bl, off + i * 4 + 3, none⟩ = some (.int .i64 x.amt) := ck 3 _ rfl
      have R1 := HRF2.out.alloc (.cells #[.int .u8 (x.acc : Int), .int .u8 (x.ent : Int), .int .u8 (x.cnt : Int), .int .i64 x.amt] 205)
      have r0 := R1.cell 0
      have r1 := R1.cell 1
      have r2 := R1.cell 2
      have r3 := R1.cell 3
      have ev : IntKind.i64.wrap ((i : Int) + 1) = (i : Int) + 1 := by rw [IntKind.wrap_i64]; have := HC.out.2.2.2.2.2.1; omega
      clear hcc ck hx htk hxe hout hoL hbd hlt hi R1
      go_wp2_with fail
      have BA := below_alloc (Below.refl _ wr) (.cells #[.int .u8 (x.acc : Int), .int .u8 (x.ent : Int), .int .u8 (x.cnt : Int), .int .i64 x.amt] 205)
      refine (line_any B c u k _ _ _ E x _ ((HF.out.below HB.out).below BA) (by have := HC.out.2.2.2.2.2.2; have := HB.out.size; have := BA.size; omega) HC.out.1 HC.out.2.1 HC.out.2.2.1 HC.out.2.2.2.1 (fun z hz => (HC.out.2.2.2.2.1 z hz).1) HX.out).mono ?_
      rintro _ wb ⟨rfl, hb⟩
      have BAB := below_then BA hb
      have HRF3 := Lib.hid (HRF2.out.below BAB)
      have HOW3 := Lib.hid (ownW_below HOW.out BAB)
      have HM3 := Lib.hid (HM.out.below BAB)
      have HB3 := Lib.hid (below_then HB.out BAB)
      obtain ⟨y, hy⟩ : ∃ y, y = lineOf c u x := ⟨_, rfl⟩
      rw [← hy]
      have hyam : y.am = x.amt := by rw [hy]; rfl
      have hyent : y.ent < 65536 := by
        have h1 : y.ent = (u.getD (x.ent % u.length) 0).toNat := by rw [hy]; rfl
        have h2 := HC.out.2.2.2.2.1 _ (getD_mem (d := 0) (Nat.mod_lt x.ent HC.out.2.2.1))
        omega
      obtain ⟨r, hr⟩ : ∃ r, r = y.am.tmod 288230376151711744 := ⟨_, rfl⟩
      have hrb := amt10_bd y.am
      have h1 := Int.tmod_lt_of_pos y.am (show (0 : Int) < 288230376151711744 by omega)
      have h2 := Int.tmod_lt_of_pos (-y.am) (show (0 : Int) < 288230376151711744 by omega)
      rw [Int.neg_tmod] at h2
      rw [← hr] at h1 h2
      have q1 : y.am.tmod 288230376151711744 = r := hr.symm
      have q2 : IntKind.i64.wrap r = r := by rw [IntKind.wrap_i64]; omega
      have HY := Lib.hid (And.intro hy (And.intro hyam (And.intro hyent (And.intro hr (And.intro h1 h2)))))
      have RG := Row.new wb (ln y).toArray 207
      obtain ⟨g9, hg9⟩ : ∃ g, g = wb.heap.size := ⟨_, rfl⟩
      rw [← hg9] at RG
      have HG9 := Lib.hid hg9
      have HR9 := Lib.hid RG
      have g3 : (wb.alloc (.cells #[.int .u32 (y.acc : Int), .int .u16 (y.ent : Int), .int .u16 (y.cnt : Int), .int .i64 y.am] 207)).cell? ⟨wb.heap.size, 3, none⟩ = some (.int .i64 y.am) := by rw [← hg9]; exact RG.cell 3
      have g4 : (wb.alloc (.cells #[.int .u32 (y.acc : Int), .int .u16 (y.ent : Int), .int .u16 (y.cnt : Int), .int .i64 y.am] 207)).frozen? ⟨wb.heap.size, 3, none⟩ = false := by rw [← hg9]; exact RG.frozen 3
      have g5 : ((wb.alloc (.cells #[.int .u32 (y.acc : Int), .int .u16 (y.ent : Int), .int .u16 (y.cnt : Int), .int .i64 y.am] 207)).setCell ⟨wb.heap.size, 3, none⟩ (.int .i64 r)).cell? ⟨wb.heap.size, 3, none⟩ = some (.int .i64 r) := by rw [← hg9]; exact (RG.set 3 (.int .i64 r)).cell 3
      clear BA hb BAB HRF2 HOW HM HB e0 e1 e2 e3 r0 r1 r2 r3 hy hyam hyent hr hrb h1 h2 RG hg9
      unfold ln
      by_cases hr0 : r = 0
      · have q3 : (r == 0) = true := by rw [hr0]; rfl
        have HR0 := Lib.hid hr0
        clear hr0
        have N9 : (Value.slice sp i sc).ownBlock ≠ some wb.heap.size := fun e => by have := (ownW_lt HOW3.out e).2; omega
        have hbl := HM3.out.lt
        have hfl := HRF3.out.lt
        have BA9 := below_alloc (Below.refl _ wb) (.cells #[.int .u32 (y.acc : Int), .int .u16 (y.ent : Int), .int .u16 (y.cnt : Int), .int .i64 1] 207)
        obtain ⟨W3, hW3⟩ : ∃ W, W = wb.alloc (.cells #[.int .u32 (y.acc : Int), .int .u16 (y.ent : Int), .int .u16 (y.cnt : Int), .int .i64 1] 207) := ⟨_, rfl⟩
        have R3 : Row W3 wb.heap.size #[.int .u32 (y.acc : Int), .int .u16 (y.ent : Int), .int .u16 (y.cnt : Int), .int .i64 1] 207 := by rw [hW3]; exact Row.new wb _ _
        have Z3 : W3.heap.size = wb.heap.size + 1 := by rw [hW3]; simp
        have O3 := own_alloc HOW3.out (.cells #[.int .u32 (y.acc : Int), .int .u16 (y.ent : Int), .int .u16 (y.cnt : Int), .int .i64 1] 207)
        have M3 := HM3.out.below BA9
        have F3 := HRF3.out.alloc (.cells #[.int .u32 (y.acc : Int), .int .u16 (y.ent : Int), .int .u16 (y.cnt : Int), .int .i64 1] 207)
        have B3 := below_alloc HB3.out (.cells #[.int .u32 (y.acc : Int), .int .u16 (y.ent : Int), .int .u16 (y.cnt : Int), .int .i64 1] 207)
        rw [← hW3] at O3 M3 F3 B3
        obtain ⟨z, hz⟩ : ∃ z : Ln, z = { y with am := 1 } := ⟨_, rfl⟩
        have hzl : ln z = [.int .u32 (y.acc : Int), .int .u16 (y.ent : Int), .int .u16 (y.cnt : Int), .int .i64 1] := by rw [hz]; rfl
        have R4 : Row (W3.alloc (.cells #[.int .u32 (y.acc : Int), .int .u16 (y.ent : Int), .int .u16 (y.cnt : Int), .int .i64 1] 207)) (wb.heap.size + 1) (ln z).toArray 207 := by rw [hzl]; exact Row.new' W3 _ _ Z3.symm
        have B4 := below_alloc (Below.refl _ W3) (.cells #[.int .u32 (y.acc : Int), .int .u16 (y.ent : Int), .int .u16 (y.cnt : Int), .int .i64 1] 207)
        obtain ⟨v6, w6, hr6, ho6, hb6, hk6, hv6, hs6⟩ := append_ln (W3.alloc (.cells #[.int .u32 (y.acc : Int), .int .u16 (y.ent : Int), .int .u16 (y.cnt : Int), .int .i64 1] 207)) w.heap.size 86 (.slice sp i sc) i out (own_alloc O3 _) (wb.heap.size + 1) z R4 (by have := HC.out.2.2.2.2.2.1; have := HLT.out.1; omega) (Nat.le_trans B3.size B4.size)
        have hz4 := B4.size
        have M6 := (M3.below B4).same (hk6 b (by omega) ((M3.below B4).notown (own_alloc O3 _)))
        have F6 : Row w6 gf _ _ := (hk6 gf (by omega) (own_type (own_alloc O3 _) (F3.below B4) (by show ¬ (67 : Nat) = 207; omega))).trans (F3.below B4)
        have R6 : Row w6 wb.heap.size _ _ := (hk6 wb.heap.size (by omega) N9).trans (R3.below B4)
        have d1 : w6.cell? ⟨wb.heap.size, 1, none⟩ = some (.int .u16 (y.ent : Int)) := R6.cell 1
        have d3 : w6.cell? ⟨wb.heap.size, 3, none⟩ = some (.int .i64 1) := R6.cell 3
        have hkey := key_ofU y.ent HY.out.2.2.1
        obtain ⟨v0, hv0⟩ : ∃ v0, v0 = tsum (out.map Ln.kv) y.ent := ⟨_, rfl⟩
        have hval : getV encI (encI 0) (tG (out.map Ln.kv) y.ent) = encI v0 := by
          rw [hv0, ← tG_get]
          cases tG (out.map Ln.kv) y.ent <;> rfl
        have hl := MapIs.look (enc := encU) (vl := encI) (e := 2) (t := 203) M6 keyedU Tryz.underlying203 encU_inj (z := encI 0) rfl y.ent hkey
        rw [hval] at hl
        have hl' : (Instr.lookup 203 (.map (some b)) (.int .u16 (y.ent : Int)) false).run Tryz.prog w6 = .ok (.int .i64 v0) w6 := hl
        obtain ⟨w7, hu, M7, G7⟩ := MapIs.store M6 keyedU Tryz.underlying203 encU_inj (by have := HC.out.2.2.2.2.2.1; have := HLT.out.1; unfold maxLen; omega) y.ent (v0 + 1) hkey
        have hu' : (Instr.mapUpdate 203 (.map (some b)) (.int .u16 (y.ent : Int)) (.int .i64 (v0 + 1))).run Tryz.prog w6 = .ok () w7 := hu
        have hbd := tsum_bd2 288230376151711744 (by omega) (out.map Ln.kv) y.ent HLT.out.2.2
        rw [List.length_map, HLT.out.2.1, ← hv0] at hbd
        have hw7 : IntKind.i64.wrap (v0 + 1) = v0 + 1 := by
          have h1 := HY.out.2.2.2.2
          have h2 : (288230376151711744 : Int) * (i : Int) ≤ 288230376151711744 * 8 := by have := HLT.out.1; have := HC.out.2.2.2.2.2.1; omega
          rw [IntKind.wrap_i64]
          omega
        have hst : tG ((out ++ [z]).map Ln.kv) = fun d => if d = y.ent then some (v0 + 1) else tG (out.map Ln.kv) d := by
          rw [List.map_append, hv0]
          have h := tG_step (out.map Ln.kv) (Ln.kv z)
          have e1 : (Ln.kv z).1 = y.ent := by rw [hz]; rfl
          have e2 : (Ln.kv z).2 = 1 := by rw [hz]; rfl
          rw [e1, e2] at h
          exact h.symm
        have hzx : first10 c u x = z := by
          unfold first10
          rw [← HY.out.1, hz]
          have : amt10 x.amt = 1 := by unfold amt10; rw [← HY.out.2.1, ← HY.out.2.2.2.1]; rw [if_pos HR0.out]
          rw [this]
        have HR6 := Lib.hid hr6
        have HO7 : Hid (w7.ownsRow w.heap.size 207 4 v6 (i + 1) (((ls.take (i + 1)).map (first10 c u)).flatMap ln)) := Lib.hid (by
          rw [HTK.out, hzx]
          exact own_same ho6 (fun g hg => G7.block g (ownW_lt ho6 hg).2 (fun e => M6.notown ho6 (hg.trans e))))
        have HM7 : Hid (MapIs w7 Tryz.prog 34 encU encI b (i + 1) (tG (((ls.take (i + 1)).map (first10 c u)).map Ln.kv))) := Lib.hid (by rw [HTK.out, hzx, hst]; exact M7)
        have HF7 : Hid (Row w7 gf #[.slice p1 c.length c1, .slice p2 u.length c2, .slice p3 k.length c3, .int .i32 E] 67) := Lib.hid ((G7.block gf F6.lt (fun e => by
          have e : gf = b := by injection e
          obtain ⟨es, clock, h1, _⟩ := M6
          have h2 := F6
          rw [e] at h2
          have := h1.symm.trans h2
          simp at this)).trans F6)
        have HB7 := Lib.hid (belowT_grown ((B3.trans (B4.mono B3.size)).trans hb6) HBW.out.1 G7)
        obtain ⟨p6, c6, rfl⟩ := own_slice ho6
        rw [hW3] at hr6 HR6
        clear N9 hbl hfl BA9 R3 Z3 O3 M3 F3 B3 hz hzl R4 B4 hr6 ho6 hb6 hk6 hv6 hs6 hz4 M6 F6 R6 hkey hv0 hval hl hu hbd hst hzx M7 G7 hW3
        go_wp2_with (first | (at_builtin; refine ev_run rfl (run_app_op _ _ _ _ rfl rfl rfl HR6.out) ?_))
        refine ⟨⟨i + 1, by have := HLT.out.1; omega, by simp, HO7.out, HM7.out, HF7.out, HB7.out⟩, by have := HLT.out.1; simp [intOf]; omega⟩
      · have q3 : (r == 0) = false := beq_eq_false_iff_ne.2 hr0
        have HR0 := Lib.hid hr0
        clear hr0
        have N9 : (Value.slice sp i sc).ownBlock ≠ some wb.heap.size := fun e => by have := (ownW_lt HOW3.out e).2; omega
        have hbl := HM3.out.lt
        have hfl := HRF3.out.lt
        have BA9 := below_alloc (Below.refl _ wb) (.cells #[.int .u32 (y.acc : Int), .int .u16 (y.ent : Int), .int .u16 (y.cnt : Int), .int .i64 r] 207)
        obtain ⟨W3, hW3⟩ : ∃ W, W = wb.alloc (.cells #[.int .u32 (y.acc : Int), .int .u16 (y.ent : Int), .int .u16 (y.cnt : Int), .int .i64 r] 207) := ⟨_, rfl⟩
        have R3 : Row W3 wb.heap.size #[.int .u32 (y.acc : Int), .int .u16 (y.ent : Int), .int .u16 (y.cnt : Int), .int .i64 r] 207 := by rw [hW3]; exact Row.new wb _ _
        have Z3 : W3.heap.size = wb.heap.size + 1 := by rw [hW3]; simp
        have O3 := own_alloc HOW3.out (.cells #[.int .u32 (y.acc : Int), .int .u16 (y.ent : Int), .int .u16 (y.cnt : Int), .int .i64 r] 207)
        have M3 := HM3.out.below BA9
        have F3 := HRF3.out.alloc (.cells #[.int .u32 (y.acc : Int), .int .u16 (y.ent : Int), .int .u16 (y.cnt : Int), .int .i64 r] 207)
        have B3 := below_alloc HB3.out (.cells #[.int .u32 (y.acc : Int), .int .u16 (y.ent : Int), .int .u16 (y.cnt : Int), .int .i64 r] 207)
        rw [← hW3] at O3 M3 F3 B3
        obtain ⟨z, hz⟩ : ∃ z : Ln, z = { y with am := r } := ⟨_, rfl⟩
        have hzl : ln z = [.int .u32 (y.acc : Int), .int .u16 (y.ent : Int), .int .u16 (y.cnt : Int), .int .i64 r] := by rw [hz]; rfl
        have R4 : Row (W3.alloc (.cells #[.int .u32 (y.acc : Int), .int .u16 (y.ent : Int), .int .u16 (y.cnt : Int), .int .i64 r] 207)) (wb.heap.size + 1) (ln z).toArray 207 := by rw [hzl]; exact Row.new' W3 _ _ Z3.symm
        have B4 := below_alloc (Below.refl _ W3) (.cells #[.int .u32 (y.acc : Int), .int .u16 (y.ent : Int), .int .u16 (y.cnt : Int), .int .i64 r] 207)
        obtain ⟨v6, w6, hr6, ho6, hb6, hk6, hv6, hs6⟩ := append_ln (W3.alloc (.cells #[.int .u32 (y.acc : Int), .int .u16 (y.ent : Int), .int .u16 (y.cnt : Int), .int .i64 r] 207)) w.heap.size 86 (.slice sp i sc) i out (own_alloc O3 _) (wb.heap.size + 1) z R4 (by have := HC.out.2.2.2.2.2.1; have := HLT.out.1; omega) (Nat.le_trans B3.size B4.size)
        have hz4 := B4.size
        have M6 := (M3.below B4).same (hk6 b (by omega) ((M3.below B4).notown (own_alloc O3 _)))
        have F6 : Row w6 gf _ _ := (hk6 gf (by omega) (own_type (own_alloc O3 _) (F3.below B4) (by show ¬ (67 : Nat) = 207; omega))).trans (F3.below B4)
        have R6 : Row w6 wb.heap.size _ _ := (hk6 wb.heap.size (by omega) N9).trans (R3.below B4)
        have d1 : w6.cell? ⟨wb.heap.size, 1, none⟩ = some (.int .u16 (y.ent : Int)) := R6.cell 1
        have d3 : w6.cell? ⟨wb.heap.size, 3, none⟩ = some (.int .i64 r) := R6.cell 3
        have hkey := key_ofU y.ent HY.out.2.2.1
        obtain ⟨v0, hv0⟩ : ∃ v0, v0 = tsum (out.map Ln.kv) y.ent := ⟨_, rfl⟩
        have hval : getV encI (encI 0) (tG (out.map Ln.kv) y.ent) = encI v0 := by
          rw [hv0, ← tG_get]
          cases tG (out.map Ln.kv) y.ent <;> rfl
        have hl := MapIs.look (enc := encU) (vl := encI) (e := 2) (t := 203) M6 keyedU Tryz.underlying203 encU_inj (z := encI 0) rfl y.ent hkey
        rw [hval] at hl
        have hl' : (Instr.lookup 203 (.map (some b)) (.int .u16 (y.ent : Int)) false).run Tryz.prog w6 = .ok (.int .i64 v0) w6 := hl
        obtain ⟨w7, hu, M7, G7⟩ := MapIs.store M6 keyedU Tryz.underlying203 encU_inj (by have := HC.out.2.2.2.2.2.1; have := HLT.out.1; unfold maxLen; omega) y.ent (v0 + r) hkey
        have hu' : (Instr.mapUpdate 203 (.map (some b)) (.int .u16 (y.ent : Int)) (.int .i64 (v0 + r))).run Tryz.prog w6 = .ok () w7 := hu
        have hbd := tsum_bd2 288230376151711744 (by omega) (out.map Ln.kv) y.ent HLT.out.2.2
        rw [List.length_map, HLT.out.2.1, ← hv0] at hbd
        have hw7 : IntKind.i64.wrap (v0 + r) = v0 + r := by
          have h1 := HY.out.2.2.2.2
          have h2 : (288230376151711744 : Int) * (i : Int) ≤ 288230376151711744 * 8 := by have := HLT.out.1; have := HC.out.2.2.2.2.2.1; omega
          rw [IntKind.wrap_i64]
          omega
        have hst : tG ((out ++ [z]).map Ln.kv) = fun d => if d = y.ent then some (v0 + r) else tG (out.map Ln.kv) d := by
          rw [List.map_append, hv0]
          have h := tG_step (out.map Ln.kv) (Ln.kv z)
          have e1 : (Ln.kv z).1 = y.ent := by rw [hz]; rfl
          have e2 : (Ln.kv z).2 = r := by rw [hz]; rfl
          rw [e1, e2] at h
          exact h.symm
        have hzx : first10 c u x = z := by
          unfold first10
          rw [← HY.out.1, hz]
          have : amt10 x.amt = r := by unfold amt10; rw [← HY.out.2.1, ← HY.out.2.2.2.1]; rw [if_neg HR0.out]
          rw [this]
        have HR6 := Lib.hid hr6
        have HO7 : Hid (w7.ownsRow w.heap.size 207 4 v6 (i + 1) (((ls.take (i + 1)).map (first10 c u)).flatMap ln)) := Lib.hid (by
          rw [HTK.out, hzx]
          exact own_same ho6 (fun g hg => G7.block g (ownW_lt ho6 hg).2 (fun e => M6.notown ho6 (hg.trans e))))
        have HM7 : Hid (MapIs w7 Tryz.prog 34 encU encI b (i + 1) (tG (((ls.take (i + 1)).map (first10 c u)).map Ln.kv))) := Lib.hid (by rw [HTK.out, hzx, hst]; exact M7)
        have HF7 : Hid (Row w7 gf #[.slice p1 c.length c1, .slice p2 u.length c2, .slice p3 k.length c3, .int .i32 E] 67) := Lib.hid ((G7.block gf F6.lt (fun e => by
          have e : gf = b := by injection e
          obtain ⟨es, clock, h1, _⟩ := M6
          have h2 := F6
          rw [e] at h2
          have := h1.symm.trans h2
          simp at this)).trans F6)
        have HB7 := Lib.hid (belowT_grown ((B3.trans (B4.mono B3.size)).trans hb6) HBW.out.1 G7)
        obtain ⟨p6, c6, rfl⟩ := own_slice ho6
        rw [hW3] at hr6 HR6
        clear N9 hbl hfl BA9 R3 Z3 O3 M3 F3 B3 hz hzl R4 B4 hr6 ho6 hb6 hk6 hv6 hs6 hz4 M6 F6 R6 hkey hv0 hval hl hu hbd hst hzx M7 G7 hW3
        go_wp2_with (first | (at_builtin; refine ev_run rfl (run_app_op _ _ _ _ rfl rfl rfl HR6.out) ?_))
        refine ⟨⟨i + 1, by have := HLT.out.1; omega, by simp, HO7.out, HM7.out, HF7.out, HB7.out⟩, by have := HLT.out.1; simp [intOf]; omega⟩
    · have i1 : ¬ (i : Int) < (ls.length : Int) := by omega
      obtain rfl : i = ls.length := by omega
      rw [List.take_length] at HOW HM
      obtain ⟨fs, hfs⟩ : ∃ f, f = ls.map (first10 c u) := ⟨_, rfl⟩
      have hfl : fs.length = ls.length := by rw [hfs, List.length_map]
      have hbd : ∀ q ∈ fs.map Ln.kv, -288230376151711744 ≤ q.2 ∧ q.2 ≤ 288230376151711744 := fun q hq => by
        obtain ⟨z, hz, rfl⟩ := List.mem_map.1 hq
        rw [hfs] at hz
        obtain ⟨z2, _, rfl⟩ := List.mem_map.1 hz
        exact amt10_bd z2.amt
      have hlo : linesOf c u ls = fs ++ restOf c u (fs.map Ln.kv) u.length := by rw [hfs]; rfl
      rw [← hfs] at HOW HM
      have HLO := Lib.hid (HRES.out.trans hlo)
      have HFS := Lib.hid (And.intro hfl hbd)
      have r1 : wr.cell? ⟨gf, 1, none⟩ = some (.slice p2 u.length c2) := HRF2.out.cell 1
      clear hlt hi hfs hfl hbd hlo
      go_wp2_with fail
      clear r1
      go_loopw [5, 46] (fun sv iv wt => ∃ (j m : Nat), j ≤ u.length ∧ iv = .int .i64 (j : Int) ∧ m = (fs ++ restOf c u (fs.map Ln.kv) j).length ∧ wt.ownsRow w.heap.size 207 4 sv m ((fs ++ restOf c u (fs.map Ln.kv) j).flatMap ln) ∧ MapIs wt Tryz.prog 34 encU encI b ls.length (tG (fs.map Ln.kv)) ∧ Row wt gf #[.slice p1 c.length c1, .slice p2 u.length c2, .slice p3 k.length c3, .int .i32 E] 67 ∧ Below w.heap.size w wt) (fun _ iv _ => u.length - (intOf iv).toNat)
      case atStart => exact ⟨0, ls.length, by omega, rfl, by simp [restOf, HFS.out.1], by simpa [restOf] using HOW.out, HM.out, HRF2.out, HB.out⟩
      case round =>
        obtain ⟨j, m, hj, rfl, hm, hown, hM, hRF, BB⟩ := hrel
        obtain ⟨sp2, sc2, rfl⟩ := own_slice hown
        have hrl := restOf_len c u (fs.map Ln.kv) j
        obtain ⟨X, hX⟩ : ∃ X, X = fs ++ restOf c u (fs.map Ln.kv) j := ⟨_, rfl⟩
        have hml : m ≤ 8 + 1000 := by rw [hm, List.length_append]; have := HFS.out.1; have := HC.out.2.2.2.1; have := HC.out.2.2.2.2.2.1; omega
        rw [← hX] at hm hown
        have HO2 := Lib.hid hown
        have HM2 := Lib.hid hM
        have HF2 := Lib.hid hRF
        have HB2 := Lib.hid BB
        have HX := Lib.hid (And.intro hX (And.intro hm hml))
        clear hm hown hM hRF BB hrl hX hml HOW HM HRF2 HB
        by_cases hlt : j < u.length
        · have i0 : (0 : Int) ≤ (j : Int) := by omega
          have i1 : (j : Int) < (u.length : Int) := by omega
          obtain ⟨bu, ou, rfl, huu⟩ : ∃ b o, p2 = some ⟨b, o, none⟩ ∧ ∀ i, i < u.length → w.cell? ⟨b, o + i, none⟩ = some (.int .u16 (u.getD i 0)) := by
            rcases HE2.out with h | h
            · rw [h] at hlt; simp at hlt
            · exact h
          obtain ⟨bc, oc, rfl, hcc⟩ : ∃ b o, p1 = some ⟨b, o, none⟩ ∧ ∀ i, i < c.length → w.rangeAt b (o + i * 4) (ac (c.getD i ac0)) := by
            rcases HE1.out with h | h
            · have := HC.out.1; rw [h] at this; simp at this
            · exact h
          have cu := cell_then (huu j hlt) HB2.out
          have hub := HC.out.2.2.2.2.1 _ (getD_mem (d := 0) hlt)
          obtain ⟨nn, hnn⟩ : ∃ n, n = (u.getD j 0).toNat := ⟨_, rfl⟩
          have hnn2 : u.getD j 0 = (nn : Int) := by rw [hnn, Int.toNat_of_nonneg hub.1]
          rw [hnn2] at cu
          obtain ⟨rj, hrj⟩ : ∃ r, r = j % c.length := ⟨_, rfl⟩
          have hrj2 : rj < c.length := by rw [hrj]; exact Nat.mod_lt _ HC.out.1
          have cc := cell_then (hcc rj hrj2 0 _ rfl) HB2.out
          obtain ⟨cd, hcd⟩ : ∃ z, z = (c.getD rj ac0).code := ⟨_, rfl⟩
          have cc : wr.cell? ⟨bc, oc + rj * 4, none⟩ = some (.int .u32 (cd : Int)) := by rw [hcd]; exact cc
          obtain ⟨v0, hv0⟩ : ∃ v0, v0 = tsum (fs.map Ln.kv) nn := ⟨_, rfl⟩
          have hrest : restOf c u (fs.map Ln.kv) (j + 1) = restOf c u (fs.map Ln.kv) j ++ (if v0 = 0 then [] else [⟨cd, nn, 0, -v0⟩]) := by
            show _ ++ restAt c u (fs.map Ln.kv) j = _
            unfold restAt
            rw [← hnn, ← hv0, ← hrj, ← hcd]
          have hkey := key_ofU nn (by omega)
          have hval : getV encI (encI 0) (tG (fs.map Ln.kv) nn) = encI v0 := by
            rw [hv0, ← tG_get]
            cases tG (fs.map Ln.kv) nn <;> rfl
          have HLK : Hid (∀ W : World, MapIs W Tryz.prog 34 encU encI b ls.length (tG (fs.map Ln.kv)) → (Instr.lookup 203 (.map (some b)) (.int .u16 (nn : Int)) false).run Tryz.prog W = .ok (.int .i64 v0) W) := Lib.hid fun W h => by
            have h := MapIs.look (enc := encU) (vl := encI) (e := 2) (t := 203) h keyedU Tryz.underlying203 encU_inj (z := encI 0) rfl nn hkey
            rw [hval] at h
            exact h
          have hb9 := tsum_bd2 288230376151711744 (by omega) (fs.map Ln.kv) nn HFS.out.2
          rw [List.length_map, HFS.out.1, ← hv0] at hb9
          have hneg : IntKind.i64.wrap (-v0) = -v0 := by
            have h2 : (288230376151711744 : Int) * (ls.length : Int) ≤ 288230376151711744 * 8 := by have := HC.out.2.2.2.2.2.1; omega
            rw [IntKind.wrap_i64]
            omega
          have HNEG := Lib.hid hneg
          have HR := Lib.hid (And.intro hrest (And.intro hrj hrj2))
          have HLT := Lib.hid hlt
          have HCC := Lib.hid cc
          have ev : IntKind.i64.wrap ((j : Int) + 1) = (j : Int) + 1 := by rw [IntKind.wrap_i64]; have := HC.out.2.2.2.1; omega
          have hl := HLK.out wr HM2.out
          clear huu hcc hub hnn hnn2 hrj hrj2 cc hcd hv0 hrest hkey hval hb9 hneg hlt hj
          by_cases hz : v0 = 0
          · have q : (v0 == 0) = true := by rw [hz]; rfl
            have HZ := Lib.hid hz
            clear hz
            go_wp2_with fail
            have hR := HR.out.1
            rw [if_pos HZ.out, List.append_nil] at hR
            refine ⟨⟨j + 1, m, by have := HLT.out; omega, by simp, ?_, ?_, HM2.out, HF2.out, HB2.out⟩, by have := HLT.out; simp [intOf]; omega⟩
            · rw [hR, ← HX.out.1]; exact HX.out.2.1
            · rw [hR, ← HX.out.1]; exact HO2.out
          · have q : (v0 == 0) = false := beq_eq_false_iff_ne.2 hz
            have HZ := Lib.hid hz
            clear hz
            go_wp2_with fail
            clear hl q
            obtain ⟨z, hzz⟩ : ∃ z : Ln, z = ⟨cd, nn, 0, -v0⟩ := ⟨_, rfl⟩
            have hzl : ln z = [.int .u32 (cd : Int), .int .u16 (nn : Int), .int .u16 0, .int .i64 (-v0)] := by rw [hzz]; rfl
            have HZL := Lib.hid (And.intro hzz hzl)
            clear hzz hzl
            refine region_tail (n := 20) 17 18 19 14 (by kernel_rfl) (fun w' => Below wr.heap.size wr w') (fun w' v => ∃ g, wr.heap.size ≤ g ∧ v = .slice (some ⟨g, 0, none⟩) 1 1 ∧ Row w' g (ln z).toArray 207) (fun w' v => w'.ownsRow w.heap.size 207 4 v (m + 1) ((X ++ [z]).flatMap ln) ∧ MapIs w' Tryz.prog 34 encU encI b ls.length (tG (fs.map Ln.kv)) ∧ Row w' gf #[.slice (some ⟨bc, oc, none⟩) c.length c1, .slice (some ⟨bu, ou, none⟩) u.length c2, .slice p3 k.length c3, .int .i32 E] 67 ∧ Below w.heap.size w w')
              (fun i => (#[.slice sp2 m sc2, .pointer (some ⟨gf, 0, none⟩), .slice (some ⟨bc, oc, none⟩) c.length c1, .int .i64 (j : Int), .pointer (some ⟨gf, 0, none⟩), .slice (some ⟨bc, oc, none⟩) c.length c1, .int .i64 (c.length : Int), .int .i64 (rj : Int), .pointer (some ⟨bc, oc + rj * 4, none⟩), .pointer (some ⟨bc, oc + rj * 4, none⟩), .int .u32 (cd : Int), .int .u16 (nn : Int), .map (some b), .int .u16 (nn : Int), .int .i64 v0, .int .i64 (-v0), .agg #[.int .u32 (cd : Int), .int .u16 (nn : Int), .int .u16 0, .int .i64 (-v0)]] : Array Value).getD i undef) (by kernel_rfl) (by kernel_rfl) (by kernel_rfl) (below_dr (Below.refl _ _)) rfl (fun _ _ a b => below_then a b) (fun w1 w2 v hb ⟨g, h1, h2, h3⟩ => ⟨g, h1, h2, h3.below hb⟩) ?_
            intro Fr Fz hF hFz
            simp only [fill, tailV, dstAt] at hF hFz
            simp [Act.put] at hF hFz
            obtain rfl : Fr = fun vb va => _ := funext fun vb => funext fun va => (hF vb va).symm
            obtain rfl : Fz = fun vb va => _ := funext fun vb => funext fun va => (hFz vb va).symm
            clear hF hFz
            refine ⟨?_, ?_, ?_, ?_, ?_⟩
            · intro i op ho n1 n2 n3 vb va wx S
              have R := HF2.out.below S
              have d0 : wx.cell? ⟨gf, 0, none⟩ = some (.slice (some ⟨bc, oc, none⟩) c.length c1) := R.cell 0
              have dc : wx.cell? ⟨bc, oc + rj * 4, none⟩ = some (.int .u32 (cd : Int)) := cell_then HCC.out S
              have hl := HLK.out wx (HM2.out.below S)
              have m1 : (j : Int).tmod (c.length : Int) = (rj : Int) := by rw [Int.tmod_eq_emod_of_nonneg (by omega), HR.out.2.1]; rfl
              have j1 : (0 : Int) ≤ (rj : Int) := by omega
              have j2 : (rj : Int) < (c.length : Int) := by have := HR.out.2.2; omega
              have j3 : ((c.length : Int) == 0) = false := beq_eq_false_iff_ne.2 (by omega)
              have j4 : ¬ c = [] := fun e => by rw [e] at j2; simp at j2; omega
              have hneg := HNEG.out
              rcases i with _ | _ | _ | _ | _ | _ | _ | _ | _ | _ | _ | _ | _ | _ | _ | _ | _ | _ | _ | _ | i
              all_goals (first | (exact absurd rfl n1) | (exact absurd rfl n2) | (exact absurd rfl n3) | (simp at ho; done) | (obtain rfl := Option.some.inj ho))
              all_goals (exact yv_val rfl (Below.refl _ _) (by go_simp))
            · intro op ho vb va wx S
              obtain rfl := Option.some.inj ho
              exact ⟨rfl, _, wx.alloc (.cells (ln z).toArray 207), by rw [HZL.out.2]; go_simp, below_alloc (Below.refl _ wx) _, wx.heap.size, S.size, rfl, Row.new wx _ _⟩
            · intro op ho vb va wx S ⟨g, hg, hv, RG⟩
              obtain rfl := Option.some.inj ho
              subst hv
              have OX := ownW_below HO2.out S
              have MX := HM2.out.below S
              have FX := HF2.out.below S
              obtain ⟨v', w', hr, ho', hb', hk', hv', hs'⟩ := append_ln wx w.heap.size 86 (.slice sp2 m sc2) m X OX g z RG (by have := HX.out.2.2; omega) (Nat.le_trans HB2.out.size S.size)
              exact ⟨rfl, v', w', run_app_op _ _ _ _ rfl rfl rfl hr, ho', MX.same (hk' b MX.lt (MX.notown OX)), (hk' gf FX.lt (own_type OX FX (by show ¬ (67 : Nat) = 207; omega))).trans FX, (below_then HB2.out S).trans hb'⟩
            · intro op ho vb va wx
              obtain rfl := Option.some.inj ho
              exact ⟨rfl, _, _, by go_simp, rfl, rfl⟩
            · intro vb va wx ⟨ho, hM, hF, hb⟩
              have HO7 := Lib.hid ho
              have HM7 := Lib.hid hM
              have HF7 := Lib.hid hF
              have HB7 := Lib.hid hb
              clear ho hM hF hb
              go_wp2_with fail
              have hR := HR.out.1
              rw [if_neg HZ.out] at hR
              have e : fs ++ restOf c u (fs.map Ln.kv) (j + 1) = X ++ [z] := by rw [hR, HX.out.1, HZL.out.1, List.append_assoc]
              refine ⟨⟨j + 1, m + 1, by have := HLT.out; omega, by simp, ?_, ?_, HM7.out, HF7.out, HB7.out⟩, by have := HLT.out; simp [intOf]; omega⟩
              · rw [e, List.length_append, ← HX.out.2.1]; rfl
              · rw [e]; exact HO7.out
        · have i1 : ¬ (j : Int) < (u.length : Int) := by omega
          obtain rfl : j = u.length := by omega
          clear hlt hj
          go_wp2_with fail
          go_ret
          refine ⟨_, rfl, ?_, HB2.out⟩
          rw [HLO.out, ← HX.out.1, ← HX.out.2.1]
          exact HO2.out
end Go.Proofs.YtbhjkddjgikaiaaGreatDoor

namespace Go.Proofs.YtbhjkddjgikaiaaGreatDoor
open Go.RowKit
set_option linter.unusedVariables false
set_option linter.unusedSimpArgs false
structure J10 where
  later : Nat
  lines : List L10
  p : Option Addr
  c : Nat
def j10 (x : J10) : List Value := [.int .u8 (x.later : Int), .slice x.p x.lines.length x.c]
def j100 : J10 := ⟨0, [], none, 0⟩
def J10.ok (w : World) (x : J10) : Prop := x.later ≤ 255 ∧ x.lines.length ≤ 8 ∧ (∀ y ∈ x.lines, y.ok) ∧ ElsAt l10 4 l100 w x.p x.lines
structure Jn where
  day : Int
  lines : List Ln
  v : Value
def jn (x : Jn) : List Value := [.int .i32 x.day, x.v]
def JsOk (B : Nat) (js : List Jn) (w : World) : Prop := ∀ x ∈ js, x.v.oneCell' = true ∧ w.ownsRow B 207 4 x.v x.lines.length (x.lines.flatMap ln)
theorem FrOk.mono {B B' : Nat} {c : List Ac} {u k : List Int} {w : World} {cv uv kv : Value} (h : FrOk B c u k w cv uv kv) (hb : B' ≤ B) : FrOk B' c u k w cv uv kv := ⟨ownMono h.1 hb, ownMono h.2.1 hb, ownMono h.2.2 hb⟩
theorem FrOk.storedT {B g : Nat} {c : List Ac} {u k : List Int} {w w' : World} {cv uv kv : Value} {cs : Array Value} {t : TypeId} (h : FrOk B c u k w cv uv kv) (R : Row w g cs t) (h1 : t ≠ 80) (h2 : t ≠ 34) (h3 : t ≠ 44) (hs : Stored w g w') : FrOk B c u k w' cv uv kv :=
  ⟨ownW_stored h.1 hs (own_type h.1 R h1), ownW_stored h.2.1 hs (own_type h.2.1 R h2), ownW_stored h.2.2 hs (own_type h.2.2 R h3)⟩
theorem JsOk.below {B : Nat} {js : List Jn} {w w' : World} (h : JsOk B js w) (hb : Below w.heap.size w w') : JsOk B js w' := fun x hx => ⟨(h x hx).1, ownW_below (h x hx).2 hb⟩
theorem JsOk.stored {B g : Nat} {js : List Jn} {w w' : World} {cs : Array Value} {t : TypeId} (h : JsOk B js w) (R : Row w g cs t) (ht : t ≠ 207) (hs : Stored w g w') : JsOk B js w' := fun x hx => ⟨(h x hx).1, ownW_stored (h x hx).2 hs (own_type (h x hx).2 R ht)⟩
def dayJ (E d : Int) (x : J10) : Int := min (d + ((x.later % 40 : Nat) : Int)) (E - 1)
def stJ (c : List Ac) (u : List Int) (E : Int) (s : Int × List (Int × List Ln)) (x : J10) : Int × List (Int × List Ln) :=
  (dayJ E s.1 x, if (linesOf c u x.lines).length = 0 then s.2 else s.2 ++ [(dayJ E s.1 x, linesOf c u x.lines)])
def mkJ (c : List Ac) (u : List Int) (E d : Int) (l : List J10) : Int × List (Int × List Ln) := l.foldl (stJ c u E) (d, [])
theorem mkJ_take (c : List Ac) (u : List Int) (E d : Int) (l : List J10) (k : Nat) (hk : k < l.length) : mkJ c u E d (l.take (k + 1)) = stJ c u E (mkJ c u E d (l.take k)) (l.getD k j100) := by
  unfold mkJ
  rw [List.take_succ_eq_append_getElem hk, List.foldl_append]
  simp [List.getD, hk]
theorem append_jn (W : World) (B : Nat) (ty : TypeId) (v : Value) (n : Nat) (xs : List Jn) (hown : W.ownsRow B 88 2 v n (xs.flatMap jn)) (g : Nat) (z : Jn) (hz : z.v.oneCell' = true) (RG : Row W g (jn z).toArray 88) (hn : n ≤ 100000) (hB : B ≤ W.heap.size) :
    ∃ v' w', (Builtin.append_ #[82, 82] ty #[v, .slice (some ⟨g, 0, none⟩) 1 1]).run Tryz.prog W = .ok v' w' ∧ w'.ownsRow B 88 2 v' (n + 1) ((xs ++ [z]).flatMap jn) ∧ Below B W w' ∧ (∀ b, b < W.heap.size → v.ownBlock ≠ some b → w'.heap[b]? = W.heap[b]?) ∧ (v'.ownBlock = v.ownBlock ∨ v'.ownBlock = some W.heap.size) ∧ W.heap.size ≤ w'.heap.size := by
  have hi0 : (Tryz.prog.info? 88).map (fun i => (i.zero, i.size, i.bytes)) = some (some (.agg #[.int .i32 0, .slice none 0 0]), 2, 32) := by kernel_rfl
  obtain ⟨i, hi, h⟩ := Option.map_eq_some_iff.1 hi0
  simp only [Prod.mk.injEq] at h
  obtain ⟨h1, h2, h3⟩ := h
  obtain ⟨v', w', hr, k2, k3, k4, k5⟩ := run_append_own_at (P := Tryz.prog) W B 82 ty 88 i (.agg #[.int .i32 0, .slice none 0 0]) 2 32 Tryz.underlying82 hi h1 h2 h3 rfl (by omega) v n (xs.flatMap jn) hown ⟨g, 0, none⟩ 1 1 (jn z) rfl (fun j u hj => by
    rw [addr_add, Nat.zero_add, RG.cell j]
    simpa using hj) (fun u hu => by simp [jn] at hu; rcases hu with rfl | rfl <;> first | rfl | exact hz) (by unfold maxLen; omega) (by omega) hB
  have hBB : Below B W w' := (Below.refl B W).grown k3 hB (fun k hk => (ownW_lt hown hk).1)
  exact ⟨v', w', hr, by rw [List.flatMap_append]; simpa using k2, hBB, fun b hb hne => k3.block b hb fun e => hne e.symm, k5, hBB.size⟩
theorem chartOf_len (l : List A6) (h : l.length ≤ 20) : 0 < (chartOf l).length ∧ (chartOf l).length ≤ 1000 := by
  unfold chartOf
  by_cases c : l.length = 0
  · rw [if_pos c]; simp
  · rw [if_neg c, mk6_len]; omega
theorem unitsOf_ok (l : List Int) (h : l.length ≤ 8) : 0 < (unitsOf l).length ∧ (unitsOf l).length ≤ 1000 ∧ ∀ z ∈ unitsOf l, 0 ≤ z ∧ z < 65536 := by
  unfold unitsOf
  have hp := List.mergeSort_perm (mk7 l) (fun a b => decide (a ≤ b))
  by_cases c : (mk7 l).length = 0
  · rw [if_pos c]; simp
  · rw [if_neg c]
    have h1 : (srt (mk7 l)).length = (mk7 l).length := hp.length_eq
    have h2 := mk7_len l
    refine ⟨by omega, by omega, fun z hz => ?_⟩
    have := (mk7_nodup l).2 z (hp.subset hz)
    omega
set_option maxHeartbeats 16000000 in
set_option maxRecDepth 100000 in
theorem makeB_any (a : Option Addr) (cap : Nat) (l : List A6) (pu : Option Addr) (cu : Nat) (lu : List Int) (first : Int) (pl : Option Addr) (cl : Nat) (long : List Int) (aj : Option Addr) (cj : Nat) (lj : List J10) (w : World)
    (hE : ElsAt a6 4 a60 w a l) (hok : ∀ x ∈ l, x.ok) (hl : l.length ≤ 20) (hU : NsAt .u16 w (.slice pu lu.length cu) lu) (hub : ∀ n ∈ lu, 0 ≤ n ∧ n ≤ 65535) (hul : lu.length ≤ 8)
    (hf : -32768 ≤ first ∧ first ≤ 32767) (hlb : ∀ n ∈ long, 0 ≤ n ∧ n ≤ 255) (hll : long.length ≤ 8) (hL : NsAt .u8 w (.slice pl long.length cl) long) (hJ : ElsAt j10 2 j100 w aj lj) (hJo : ∀ x ∈ lj, x.ok w) (hJl : lj.length ≤ 12) :
    Calls Tryz.prog 36 #[.agg #[.slice a l.length cap, .slice pu lu.length cu, .int .i16 first, .slice pl long.length cl, .slice aj lj.length cj]] w fun e w' => ∃ cv uv kv jv js, e = .returned (.agg #[cv, uv, kv, .int .i32 (endOf first long), jv]) ∧ FrOk w.heap.size (chartOf l) (unitsOf lu) (startsOf first long) w' cv uv kv ∧ w'.ownsRow w.heap.size 88 2 jv js.length (js.flatMap jn) ∧ JsOk w.heap.size js w' ∧ js.map (fun x => (x.day, x.lines)) = (mkJ (chartOf l) (unitsOf lu) (endOf first long) first lj).2 ∧ Below w.heap.size w w' := by
  have HFR := Lib.hid (fun W (hb : Below w.heap.size w W) => frame_any a cap l (.slice pu lu.length cu) lu first (.slice pl long.length cl) long (.slice aj lj.length cj) W (hE.below hb) hok hl (hU.below hb) hub hul hf hlb hll (hL.below hb) rfl)
  have HCL := Lib.hid (chartOf_len l hl)
  have HUL := Lib.hid (unitsOf_ok lu hul)
  have HJE := Lib.hid hJ
  have HJO := Lib.hid hJo
  have HJL := Lib.hid hJl
  have hbd := Sc.dayAt_bd first long hf (min long.length 12)
  obtain ⟨E, hEE⟩ : ∃ E, E = endOf first long := ⟨_, rfl⟩
  have hE1 : first + 31 ≤ E ∧ E ≤ first + 40 * 12 + 31 := by rw [hEE]; unfold endOf; omega
  have hs0 : (startsOf first long).getD 0 0 = first ∧ 0 < (startsOf first long).length := by
    unfold startsOf Sc.mkStarts
    refine ⟨?_, by simp⟩
    simp [List.getD, List.range_succ_eq_map, Sc.dayAt]
  obtain ⟨c, hc⟩ : ∃ c, c = chartOf l := ⟨_, rfl⟩
  obtain ⟨u, hu⟩ : ∃ u, u = unitsOf lu := ⟨_, rfl⟩
  obtain ⟨st, hst⟩ : ∃ s, s = startsOf first long := ⟨_, rfl⟩
  rw [← hc] at HFR HCL ⊢
  rw [← hu] at HFR HUL ⊢
  rw [← hst] at HFR hs0 ⊢
  rw [← hEE] at HFR ⊢
  have HE := Lib.hid (And.intro hE1 (And.intro hs0 hf))
  have BX := below_alloc (below_alloc (Below.refl _ w) (.cells #[.slice a l.length cap, .slice pu lu.length cu, .int .i16 first, .slice pl long.length cl, .slice aj lj.length cj] 62)) (.cells #[.slice none 0 0, .slice none 0 0, .slice none 0 0, .int .i32 0, .slice none 0 0] 84)
  have RX := (Row.new w #[.slice a l.length cap, .slice pu lu.length cu, .int .i16 first, .slice pl long.length cl, .slice aj lj.length cj] 62).alloc (.cells #[.slice none 0 0, .slice none 0 0, .slice none 0 0, .int .i32 0, .slice none 0 0] 84)
  have RR := Row.new' (w.alloc (.cells #[.slice a l.length cap, .slice pu lu.length cu, .int .i16 first, .slice pl long.length cl, .slice aj lj.length cj] 62)) #[.slice none 0 0, .slice none 0 0, .slice none 0 0, .int .i32 0, .slice none 0 0] 84 (g := w.heap.size + 1) (by simp)
  clear hE hok hl hU hub hul hlb hll hL hJ hJo hJl hbd hEE hE1 hs0 hc hu hst hf
  go_enter Tryz.func36, Tryz.ntmps36
  go_wp2_with fail
  refine (HFR.out _ BX).mono ?_
  generalize (w.alloc (.cells #[.slice a l.length cap, .slice pu lu.length cu, .int .i16 first, .slice pl long.length cl, .slice aj lj.length cj] 62)).alloc (.cells #[.slice none 0 0, .slice none 0 0, .slice none 0 0, .int .i32 0, .slice none 0 0] 84) = w0 at *
  rintro _ w1 ⟨cv, uv, kv, rfl, hF, hb⟩
  obtain ⟨p1, c1, rfl⟩ := own_slice hF.1
  obtain ⟨p2, c2, rfl⟩ := own_slice hF.2.1
  obtain ⟨⟨p3, c3, hv3, hE3⟩, _⟩ := NsAt.of_own hF.2.2
  subst hv3
  obtain ⟨bs, os, rfl, hcs⟩ : ∃ b o, p3 = some ⟨b, o, none⟩ ∧ ∀ i, i < st.length → w1.cell? ⟨b, o + i, none⟩ = some (.int .i32 (st.getD i 0)) := by
    rcases hE3 with h | h
    · have := HE.out.2.1.2; rw [h] at this; simp at this
    · exact h
  have s0 := hcs 0 HE.out.2.1.2
  rw [HE.out.2.1.1, Nat.add_zero] at s0
  have RX1 := RX.below hb
  have RR1 := RR.below hb
  have B1 := BX.trans (hb.mono BX.size)
  have F1 := FrOk.mono hF BX.size
  have f0 : (w1.alloc (.cells #[.slice p1 c.length c1, .slice p2 u.length c2, .slice (some ⟨bs, os, none⟩) st.length c3, .int .i32 E, .slice none 0 0] 84)).cell? ⟨bs, os, none⟩ = some (.int .i32 first) := cell_then s0 (below_alloc (Below.refl _ w1) _)
  have f1 : (w1.alloc (.cells #[.slice p1 c.length c1, .slice p2 u.length c2, .slice (some ⟨bs, os, none⟩) st.length c3, .int .i32 E, .slice none 0 0] 84)).cell? ⟨w.heap.size, 4, none⟩ = some (.slice aj lj.length cj) := (RX1.alloc _).cell 4
  have RB := Row.new w1 #[.slice p1 c.length c1, .slice p2 u.length c2, .slice (some ⟨bs, os, none⟩) st.length c3, .int .i32 E, .slice none 0 0] 84
  have B2 := below_alloc (Below.refl _ w1) (.cells #[.slice p1 c.length c1, .slice p2 u.length c2, .slice (some ⟨bs, os, none⟩) st.length c3, .int .i32 E, .slice none 0 0] 84)
  have hlt1 := RR1.lt
  have RR2 := RR1.below B2
  have F2 := F1.below B2
  have B3 := below_then B1 B2
  have hst : (0 : Int) < (st.length : Int) := by have := HE.out.2.1.2; omega
  clear hE3 hcs s0 RX RR BX hb hF RX1 RR1 F1
  go_wp2_with fail
  generalize w1.alloc (.cells #[.slice p1 c.length c1, .slice p2 u.length c2, .slice (some ⟨bs, os, none⟩) st.length c3, .int .i32 E, .slice none 0 0] 84) = w2 at *
  obtain ⟨gb, hgb⟩ : ∃ g, g = w1.heap.size := ⟨_, rfl⟩
  obtain ⟨gr, hgr⟩ : ∃ g, g = w.heap.size + 1 := ⟨_, rfl⟩
  rw [← hgb] at RB ⊢
  rw [← hgr] at RR2 ⊢
  have HGB := Lib.hid (show w.heap.size ≤ gb ∧ gr ≠ gb ∧ w.heap.size ≤ gr by have := B1.size; omega)
  have HF2 := Lib.hid F2
  have HRB := Lib.hid RB
  have HRR := Lib.hid RR2
  have HB3 := Lib.hid B3
  clear f0 f1 RB B2 RR2 F2 B3 B1 hgb hgr hst hlt1
  obtain ⟨gr0, hgr0⟩ : ∃ z, z = w.heap.size := ⟨_, rfl⟩
  go_loopw [4, 20] (fun dv iv wr => ∃ (i : Nat) (d : Int) (js : List Jn) (jv : Value), i ≤ lj.length ∧ iv = .int .i64 (i : Int) ∧ dv = .int .i32 d ∧ (first - 1 ≤ d ∧ d ≤ 40000) ∧ js.length ≤ i ∧ (d, js.map fun x => (x.day, x.lines)) = mkJ c u E first (lj.take i) ∧ Row wr gb #[.slice p1 c.length c1, .slice p2 u.length c2, .slice (some ⟨bs, os, none⟩) st.length c3, .int .i32 E, jv] 84 ∧ wr.ownsRow w.heap.size 88 2 jv js.length (js.flatMap jn) ∧ JsOk w.heap.size js wr ∧ FrOk w.heap.size c u st wr (.slice p1 c.length c1) (.slice p2 u.length c2) (.slice (some ⟨bs, os, none⟩) st.length c3) ∧ Row wr gr #[.slice none 0 0, .slice none 0 0, .slice none 0 0, .int .i32 0, .slice none 0 0] 84 ∧ Below w.heap.size w wr) (fun _ iv _ => lj.length - (intOf iv).toNat)
  case atStart => exact ⟨0, first, [], .slice none 0 0, by omega, rfl, rfl, by have := HE.out.2.2; omega, by simp, rfl, HRB.out, ⟨rfl, .inl ⟨rfl, rfl⟩⟩, fun x hx => by simp at hx, HF2.out, HRR.out, HB3.out⟩
  case round =>
    obtain ⟨i, d, js, jv, hi, rfl, rfl, hd, hjl, hmk, hRB, hO, hJ, hF, hRR, BB⟩ := hrel
    obtain ⟨pj, cjv, rfl⟩ := own_slice hO
    have H1 := Lib.hid (And.intro hd (And.intro hjl hmk))
    have HO := Lib.hid hO
    have HJ := Lib.hid hJ
    have HF := Lib.hid hF
    have HRB2 := Lib.hid hRB
    have HRR2 := Lib.hid hRR
    have HB := Lib.hid BB
    clear hjl hmk hRB hO hJ hF hRR BB HRB HRR HB3 HF2
    by_cases hlt : i < lj.length
    · have i0 : (0 : Int) ≤ (i : Int) := by omega
      have i1 : (i : Int) < (lj.length : Int) := by omega
      obtain ⟨bl, off, rfl, hcc⟩ : ∃ b o, aj = some ⟨b, o, none⟩ ∧ ∀ i, i < lj.length → w.rangeAt b (o + i * 2) (j10 (lj.getD i j100)) := by
        rcases HJE.out with h | h
        · rw [h] at hlt; simp at hlt
        · exact h
      have ck := range_below (hcc i hlt) HB.out
      have hx := HJO.out _ (getD_mem (d := j100) hlt)
      have htk := mkJ_take c u E first lj i hlt
      obtain ⟨x, hxe⟩ : ∃ x, x = lj.getD i j100 := ⟨_, rfl⟩
      rw [← hxe] at ck hx htk
      have e0 : wr.cell? ⟨bl, off + i * 2, none⟩ = some (.int .u8 (x.later : Int)) := ck 0 _ rfl
      have e1 : wr.cell? ⟨bl, off + i * 2 + 1, none⟩ = some (.slice x.p x.lines.length x.c) := ck 1 _ rfl
      obtain ⟨r, hr⟩ : ∃ r, r = x.later % 40 := ⟨_, rfl⟩
      have m1 : (x.later : Int).tmod 40 = (r : Int) := by rw [Int.tmod_eq_emod_of_nonneg (by omega), hr]; rfl
      have hrl : r < 40 := by omega
      have q1 : IntKind.u8.wrap (r : Int) = (r : Int) := by rw [IntKind.wrap_u8]; omega
      have q2 : IntKind.i32.wrap (r : Int) = (r : Int) := by rw [IntKind.wrap_i32]; omega
      have hE := HE.out
      have q3 : IntKind.i32.wrap (d + (r : Int)) = d + (r : Int) := by rw [IntKind.wrap_i32]; omega
      have q4 : IntKind.i32.wrap (E - 1) = E - 1 := by rw [IntKind.wrap_i32]; omega
      have ev : IntKind.i64.wrap ((i : Int) + 1) = (i : Int) + 1 := by rw [IntKind.wrap_i64]; have := HJL.out; omega
      have BA := below_alloc (Below.refl _ wr) (.cells #[.int .u8 (x.later : Int), .slice x.p x.lines.length x.c] 150)
      have RA := HRB2.out.below BA
      have r0 := RA.cell 0
      have r1 := RA.cell 1
      have r2 := RA.cell 2
      have r3 := RA.cell 3
      have HX := Lib.hid (And.intro hx (And.intro htk (And.intro hlt hr)))
      clear hcc ck hx htk hxe hr hE hlt hi RA hd
      go_wp2_with fail
      refine (lines_any w.heap.size c u st _ _ _ E (x.later : Int) x.p x.c x.lines _ (HF.out.below BA) (Nat.le_trans HB.out.size BA.size) HCL.out.1 HCL.out.2 HUL.out.1 HUL.out.2.1 HUL.out.2.2 ((ElsAt.below HX.out.1.2.2.2 HB.out).below BA) HX.out.1.2.2.1 HX.out.1.2.1).mono ?_
      rintro _ wb ⟨lv, rfl, ol, hb⟩
      have BAB := below_then BA hb
      have ol2 := ownMono ol (Nat.le_trans HB.out.size BA.size)
      have R3 := HRB2.out.below BAB
      have O3 := ownW_below HO.out BAB
      have J3 := HJ.out.below BAB
      have F3 := HF.out.below BAB
      have Y3 := HRR2.out.below BAB
      have B3 := below_then HB.out BAB
      obtain ⟨pv, cv2, rfl⟩ := own_slice ol
      obtain ⟨L, hL⟩ : ∃ L, L = linesOf c u x.lines := ⟨_, rfl⟩
      rw [← hL] at ol2 ⊢
      obtain ⟨d2, hd2⟩ : ∃ d2, d2 = min (d + (r : Int)) (E - 1) := ⟨_, rfl⟩
      have hdj : dayJ E d x = d2 := by unfold dayJ; rw [hd2, HX.out.2.2.2]
      have hd3 : first - 1 ≤ d2 ∧ d2 ≤ 40000 := by have := HE.out; have := H1.out.1; rw [hd2]; omega
      have hstp : mkJ c u E first (lj.take (i + 1)) = (d2, if L.length = 0 then js.map (fun y => (y.day, y.lines)) else js.map (fun y => (y.day, y.lines)) ++ [(d2, L)]) := by
        rw [HX.out.2.1, ← H1.out.2.2]
        unfold stJ
        rw [hdj, ← hL]
      rw [← hd2]
      have HS := Lib.hid (And.intro hd3 hstp)
      have HR3 := Lib.hid R3
      have HO3 := Lib.hid O3
      have HJ3 := Lib.hid J3
      have HF3 := Lib.hid F3
      have HY3 := Lib.hid Y3
      have HB3 := Lib.hid B3
      have HOL := Lib.hid ol2
      clear BA hb BAB ol ol2 R3 O3 J3 F3 Y3 B3 hL hd2 hdj hd3 hstp r0 r1 r2 r3 e0 e1 m1 q1 q2 q3 q4 hrl HRB2 HO HJ HF HRR2 HB
      by_cases hl0 : L.length = 0
      · have k0 : ¬ (0 : Int) < (L.length : Int) := by omega
        have HL0 := Lib.hid hl0
        clear hl0
        go_wp2_with fail
        have hs := HS.out.2
        rw [if_pos HL0.out] at hs
        exact ⟨⟨i + 1, d2, js, .slice pj js.length cjv, by have := HX.out.2.2.1; omega, by simp, rfl, HS.out.1, by have := H1.out.2.1; omega, hs.symm, HR3.out, HO3.out, HJ3.out, HF3.out, HY3.out, HB3.out⟩, by have := HX.out.2.2.1; simp [intOf]; omega⟩
      · have k0 : (0 : Int) < (L.length : Int) := by omega
        have HL0 := Lib.hid hl0
        clear hl0
        have t4 : (wb.alloc (.cells #[.int .i32 d2, .slice pv L.length cv2] 88)).cell? ⟨gb, 4, none⟩ = some (.slice pj js.length cjv) := (HR3.out.alloc _).cell 4
        have t5 : wb.cell? ⟨gb, 4, none⟩ = some (.slice pj js.length cjv) := HR3.out.cell 4
        obtain ⟨z, hz⟩ : ∃ z : Jn, z = ⟨d2, L, .slice pv L.length cv2⟩ := ⟨_, rfl⟩
        have hzl : jn z = [.int .i32 d2, .slice pv L.length cv2] := by rw [hz]; rfl
        have R4 : Row (wb.alloc (.cells #[.int .i32 d2, .slice pv L.length cv2] 88)) wb.heap.size (jn z).toArray 88 := by rw [hzl]; exact Row.new wb _ _
        have B4 := below_alloc (Below.refl _ wb) (.cells #[.int .i32 d2, .slice pv L.length cv2] 88)
        obtain ⟨v6, w6, hr6, ho6, hb6, hk6, hv6, hs6⟩ := append_jn (wb.alloc (.cells #[.int .i32 d2, .slice pv L.length cv2] 88)) w.heap.size 82 (.slice pj js.length cjv) js.length js (own_alloc HO3.out _) wb.heap.size z (by rw [hz]; rfl) R4 (by have := H1.out.2.1; have := HX.out.2.2.1; have := HJL.out; omega) (Nat.le_trans HB3.out.size B4.size)
        have O4 := own_alloc HO3.out (.cells #[.int .i32 d2, .slice pv L.length cv2] 88)
        have R4b := HR3.out.alloc (.cells #[.int .i32 d2, .slice pv L.length cv2] 88)
        have Y4 := HY3.out.alloc (.cells #[.int .i32 d2, .slice pv L.length cv2] 88)
        have R6 : Row w6 gb _ _ := (hk6 gb R4b.lt (own_type O4 R4b (by show ¬ (84 : Nat) = 88; omega))).trans R4b
        have Y6 : Row w6 gr _ _ := (hk6 gr Y4.lt (own_type O4 Y4 (by show ¬ (84 : Nat) = 88; omega))).trans Y4
        have keep : ∀ {sz m : Nat} {e : TypeId} {v : Value} {xs : List Value}, e ≠ 88 → (wb.alloc (.cells #[.int .i32 d2, .slice pv L.length cv2] 88)).ownsRow w.heap.size e sz v m xs → w6.ownsRow w.heap.size e sz v m xs := fun he h => own_same h (fun g hg => hk6 g (ownW_lt h hg).2 (fun e2 => by
          obtain ⟨cs1, h1⟩ := own_cells O4 e2
          obtain ⟨cs2, h2⟩ := own_cells h hg
          have h3 := h1.symm.trans h2
          simp at h3
          exact he h3.2.symm))
        have J6 : JsOk w.heap.size (js ++ [z]) w6 := fun y hy => by
          rcases List.mem_append.1 hy with hy | hy
          · exact ⟨(HJ3.out y hy).1, keep (by show ¬ (207 : Nat) = 88; omega) (own_alloc (HJ3.out y hy).2 _)⟩
          · rw [List.mem_singleton.1 hy, hz]
            exact ⟨rfl, keep (by show ¬ (207 : Nat) = 88; omega) (own_alloc HOL.out _)⟩
        have F6 : FrOk w.heap.size c u st w6 (.slice p1 c.length c1) (.slice p2 u.length c2) (.slice (some ⟨bs, os, none⟩) st.length c3) := by
          have h := HF3.out.below B4
          exact ⟨keep (by show ¬ (80 : Nat) = 88; omega) h.1, keep (by show ¬ (34 : Nat) = 88; omega) h.2.1, keep (by show ¬ (44 : Nat) = 88; omega) h.2.2⟩
        have B6 := (HB3.out.trans (B4.mono HB3.out.size)).trans hb6
        obtain ⟨p6, c6, rfl⟩ := own_slice ho6
        have u4 : w6.cell? ⟨gb, 4, none⟩ = some (.slice pj js.length cjv) := R6.cell 4
        have u5 : w6.frozen? ⟨gb, 4, none⟩ = false := R6.frozen 4
        have S7 := stored_setCell w6 gb 4 (.slice p6 (js.length + 1) c6)
        have R7 := R6.set 4 (.slice p6 (js.length + 1) c6)
        have Y7 := Y6.other ⟨gb, 4, none⟩ HGB.out.2.1 (.slice p6 (js.length + 1) c6)
        have O7 := ownW_stored ho6 S7 (own_type ho6 R6 (by show ¬ (84 : Nat) = 88; omega))
        have J7 := J6.stored R6 (by show ¬ (84 : Nat) = 207; omega) S7
        have F7 := F6.storedT R6 (by show ¬ (84 : Nat) = 80; omega) (by show ¬ (84 : Nat) = 34; omega) (by show ¬ (84 : Nat) = 44; omega) S7
        have B7 := S7.below B6 HGB.out.1
        have hmap : (js ++ [z]).map (fun y => (y.day, y.lines)) = js.map (fun y => (y.day, y.lines)) ++ [(d2, L)] := by rw [List.map_append, hz]; rfl
        have HR6 := Lib.hid hr6
        have HR7 := Lib.hid R7
        have HY7 := Lib.hid Y7
        have HO7 := Lib.hid O7
        have HJ7 := Lib.hid J7
        have HF7 := Lib.hid F7
        have HB7 := Lib.hid B7
        have HMP := Lib.hid hmap
        clear hz hzl R4 B4 hr6 ho6 hb6 hk6 hv6 hs6 O4 R4b Y4 R6 Y6 keep J6 F6 B6 S7 R7 Y7 O7 J7 F7 B7 hmap
        go_wp2_with (first | (at_builtin; refine ev_run rfl (run_app_op _ _ _ _ rfl rfl rfl HR6.out) ?_))
        have hs := HS.out.2
        rw [if_neg HL0.out, ← HMP.out] at hs
        refine ⟨⟨i + 1, d2, js ++ [z], .slice p6 (js.length + 1) c6, by have := HX.out.2.2.1; omega, by simp, rfl, HS.out.1, by rw [List.length_append]; have := H1.out.2.1; simp; omega, hs.symm, HR7.out, ?_, HJ7.out, HF7.out, HY7.out, HB7.out⟩, by have := HX.out.2.2.1; simp [intOf]; omega⟩
        rw [List.length_append]
        exact HO7.out
    · have i1 : ¬ (i : Int) < (lj.length : Int) := by omega
      obtain rfl : i = lj.length := by omega
      clear hlt hi hd
      go_wp2_with (first | (refine ev_load (N := 52) rfl rfl 84 _ rfl gb rfl HRB2.out _ Tryz.underlying84 rfl (by kernel_rfl) ?_) | (refine ev_store rfl 84 _ _ rfl gr #[.slice p1 c.length c1, .slice p2 u.length c2, .slice (some ⟨bs, os, none⟩) st.length c3, .int .i32 E, .slice pj js.length cjv] rfl rfl HRR2.out (by kernel_rfl) rfl (by simp [Value.oneCell']) rfl ?_; intro w9 RZ S9))
      have hmk := H1.out.2.2
      rw [List.take_length] at hmk
      have hg := HGB.out.2.2
      exact bodyPost_ret (v := .agg #[.slice p1 c.length c1, .slice p2 u.length c2, .slice (some ⟨bs, os, none⟩) st.length c3, .int .i32 E, .slice pj js.length cjv]) (res_row rfl _ _ RZ rfl Tryz.underlying84 rfl (by kernel_rfl)) rfl ⟨.slice p1 c.length c1, .slice p2 u.length c2, .slice (some ⟨bs, os, none⟩) st.length c3, .slice pj js.length cjv, rfl, HF.out.storedT HRR2.out (by show ¬ (84 : Nat) = 80; omega) (by show ¬ (84 : Nat) = 34; omega) (by show ¬ (84 : Nat) = 44; omega) S9, js, ownW_stored HO.out S9 (own_type HO.out HRR2.out (by show ¬ (84 : Nat) = 88; omega)), HJ.out.stored HRR2.out (by show ¬ (84 : Nat) = 207; omega) S9, by rw [← hmk], S9.below HB.out hg⟩
end Go.Proofs.YtbhjkddjgikaiaaGreatDoor

namespace Go.Proofs.YtbhjkddjgikaiaaGreatDoor
open Go.RowKit
set_option linter.unusedVariables false
set_option linter.unusedSimpArgs false
set_option maxHeartbeats 8000000 in
set_option maxRecDepth 100000 in
theorem light_any (a : Option Addr) (cap n : Nat) (pu : Option Addr) (cu nu : Nat) (first : Int) (pl : Option Addr) (cl nl : Nat) (aj : Option Addr) (cj : Nat) (lj : List J10) (w : World) (hJ : ElsAt j10 2 j100 w aj lj) (hm : lj.length ≤ 9223372036854775807) :
    Calls Tryz.prog 28 #[.agg #[.slice a n cap, .slice pu nu cu, .int .i16 first, .slice pl nl cl, .slice aj lj.length cj]] w fun e w' => ∃ r, e = .returned r ∧ ((r = .bool true ∧ (∀ x ∈ lj, x.lines.length ≤ 8) ∧ n ≤ 20 ∧ nu ≤ 8 ∧ nl ≤ 8 ∧ lj.length ≤ 12) ∨ r = .bool false) ∧ Below w.heap.size w w' := by
  have HJ := Lib.hid hJ
  have HM := Lib.hid hm
  have BX := below_alloc (Below.refl _ w) (.cells #[.slice a n cap, .slice pu nu cu, .int .i16 first, .slice pl nl cl, .slice aj lj.length cj] 62)
  have RX := Row.new w #[.slice a n cap, .slice pu nu cu, .int .i16 first, .slice pl nl cl, .slice aj lj.length cj] 62
  clear hJ hm
  go_enter Tryz.func28, Tryz.ntmps28
  go_wp2_with fail
  generalize w.alloc (.cells #[.slice a n cap, .slice pu nu cu, .int .i16 first, .slice pl nl cl, .slice aj lj.length cj] 62) = w0 at *
  have HRX := Lib.hid RX
  have HBX := Lib.hid BX
  clear RX BX
  go_loopw [8] (fun iv wr => ∃ i : Nat, i ≤ lj.length ∧ iv = .int .i64 (i : Int) ∧ (∀ x ∈ lj.take i, x.lines.length ≤ 8) ∧ Row wr w.heap.size #[.slice a n cap, .slice pu nu cu, .int .i16 first, .slice pl nl cl, .slice aj lj.length cj] 62 ∧ Below w.heap.size w wr) (fun iv _ => lj.length - (intOf iv).toNat)
  case atStart => exact ⟨0, by omega, rfl, by simp, HRX.out, HBX.out⟩
  case round =>
    obtain ⟨i, hi, rfl, hall, hR, BB⟩ := hrel
    have HA := Lib.hid hall
    have HR := Lib.hid hR
    have HB := Lib.hid BB
    clear hall hR BB HRX HBX
    by_cases hlt : i < lj.length
    · have i0 : (0 : Int) ≤ (i : Int) := by omega
      have i1 : (i : Int) < (lj.length : Int) := by omega
      obtain ⟨bl, off, rfl, hcc⟩ : ∃ b o, aj = some ⟨b, o, none⟩ ∧ ∀ i, i < lj.length → w.rangeAt b (o + i * 2) (j10 (lj.getD i j100)) := by
        rcases HJ.out with h | h
        · rw [h] at hlt; simp at hlt
        · exact h
      have ck := range_below (hcc i hlt) HB.out
      have htk : lj.take (i + 1) = lj.take i ++ [lj.getD i j100] := by rw [List.take_succ_eq_append_getElem hlt]; simp [List.getD, hlt]
      obtain ⟨x, hxe⟩ : ∃ x, x = lj.getD i j100 := ⟨_, rfl⟩
      rw [← hxe] at ck htk
      have HT := Lib.hid (And.intro htk hlt)
      have e0 : wr.cell? ⟨bl, off + i * 2, none⟩ = some (.int .u8 (x.later : Int)) := ck 0 _ rfl
      have e1 : wr.cell? ⟨bl, off + i * 2 + 1, none⟩ = some (.slice x.p x.lines.length x.c) := ck 1 _ rfl
      have ev : IntKind.i64.wrap ((i : Int) + 1) = (i : Int) + 1 := by rw [IntKind.wrap_i64]; have := HM.out; omega
      clear hcc ck htk hxe hlt hi
      by_cases h8 : x.lines.length ≤ 8
      · have k0 : ¬ (8 : Int) < (x.lines.length : Int) := by omega
        have H8 := Lib.hid h8
        clear h8
        go_wp2_with fail
        refine ⟨⟨i + 1, by have := HT.out.2; omega, by simp, fun y hy => ?_, HR.out.alloc _, below_alloc HB.out _⟩, by have := HT.out.2; simp [intOf]; omega⟩
        rw [HT.out.1] at hy
        rcases List.mem_append.1 hy with hy | hy
        · exact HA.out y hy
        · rw [List.mem_singleton.1 hy]; exact H8.out
      · have k0 : (8 : Int) < (x.lines.length : Int) := by omega
        clear h8
        go_wp2_with fail
        go_ret
        exact ⟨_, rfl, .inr rfl, below_alloc HB.out _⟩
    · have i1 : ¬ (i : Int) < (lj.length : Int) := by omega
      obtain rfl : i = lj.length := by omega
      have r0 : wr.cell? ⟨w.heap.size, 0, none⟩ = some (.slice a n cap) := HR.out.cell 0
      have r1 : wr.cell? ⟨w.heap.size, 1, none⟩ = some (.slice pu nu cu) := HR.out.cell 1
      have r3 : wr.cell? ⟨w.heap.size, 3, none⟩ = some (.slice pl nl cl) := HR.out.cell 3
      have r4 : wr.cell? ⟨w.heap.size, 4, none⟩ = some (.slice aj lj.length cj) := HR.out.cell 4
      have hall := HA.out
      rw [List.take_length] at hall
      have HAL := Lib.hid hall
      clear hlt hi hall HA HR
      by_cases h1 : n ≤ 20
      · have k1 : (n : Int) ≤ 20 := by omega
        by_cases h2 : nu ≤ 8
        · have k2 : (nu : Int) ≤ 8 := by omega
          by_cases h3 : nl ≤ 8
          · have k3 : (nl : Int) ≤ 8 := by omega
            by_cases h4 : lj.length ≤ 12
            · have k4 : (lj.length : Int) ≤ 12 := by omega
              have HH := Lib.hid (And.intro h1 (And.intro h2 (And.intro h3 h4)))
              clear h1 h2 h3 h4
              go_wp2_with fail
              go_ret
              exact ⟨_, rfl, .inl ⟨rfl, HAL.out, HH.out⟩, HB.out⟩
            · have k4 : ¬ (lj.length : Int) ≤ 12 := by omega
              clear h1 h2 h3 h4
              go_wp2_with fail
              go_ret
              exact ⟨_, rfl, .inr rfl, HB.out⟩
          · have k3 : ¬ (nl : Int) ≤ 8 := by omega
            clear h1 h2 h3
            go_wp2_with fail
            go_ret
            exact ⟨_, rfl, .inr rfl, HB.out⟩
        · have k2 : ¬ (nu : Int) ≤ 8 := by omega
          clear h1 h2
          go_wp2_with fail
          go_ret
          exact ⟨_, rfl, .inr rfl, HB.out⟩
      · have k1 : ¬ (n : Int) ≤ 20 := by omega
        clear h1
        go_wp2_with fail
        go_ret
        exact ⟨_, rfl, .inr rfl, HB.out⟩
end Go.Proofs.YtbhjkddjgikaiaaGreatDoor
