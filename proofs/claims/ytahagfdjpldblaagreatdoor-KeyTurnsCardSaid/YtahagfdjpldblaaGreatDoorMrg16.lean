/-
  Own texts, several in one (Contains, TurnsP, KeysN).
-/
import Derived.Test.YtahagfdjpldblaaGreatDoorMrg13
import Derived.Test.YtahagfdjpldblaaGreatDoorMrg15
import Derived.Deep.QuietTactic
import Derived.BigQuiet
import Derived.Test.YtahagfdjpldblaaGreatDoorMrg14
import Derived.Shelf.SlicesE.Clone
import Derived.Maps.AppendAt
namespace Go.Proofs.YtahagfdjpldblaaGreatDoor
open Go.RowKit Ky
set_option linter.unusedVariables false
set_option linter.unusedSimpArgs false

theorem getD_mem {α : Type} {l : List α} {d : α} {k : Nat} (h : k < l.length) : l.getD k d ∈ l := by
  rw [List.getD_eq_getElem?_getD, List.getElem?_eq_getElem h]
  exact List.getElem_mem h
theorem PairsAt.below {w w' : World} {v : Value} {l : List (K × K)} (h : PairsAt w v l) (hb : Below w.heap.size w w') : PairsAt w' v l := by
  obtain ⟨p, cap, e, h⟩ := h
  refine ⟨p, cap, e, ?_⟩
  rcases h with h | ⟨g, e2, h⟩
  · exact .inl h
  · exact .inr ⟨g, e2, fun t u hu => cell_then (h t u hu) hb⟩
theorem pairs_cell {w : World} {g : Nat} {l : List (K × K)} (h : ∀ t u, (pcs l)[t]? = some u → w.cell? ⟨g, t, none⟩ = some u) (i : Nat) (hi : i < l.length) (q : Nat) (hq : q < 6) : w.cell? ⟨g, i * 6 + q, none⟩ = (pc (l.getD i pk0.1))[q]? := by
  have h1 := pcs_get l (i * 6 + q) (by omega)
  rw [show (i * 6 + q) / 6 = i by omega, show (i * 6 + q) % 6 = q by omega] at h1
  rw [← h1]
  obtain ⟨u, hu⟩ : ∃ u, (pcs l)[i * 6 + q]? = some u := by
    refine ⟨_, List.getElem?_eq_getElem ?_⟩
    rw [pcs_len]
    omega
  rw [hu]
  exact h _ _ hu
set_option maxHeartbeats 1000000 in
set_option maxRecDepth 100000 in
theorem index_any (v : Value) (l : List (K × K)) (c : K × K) (w : World) (hP : PairsAt w v l) (hl : l.length ≤ 1000) :
    Calls Tryz.prog 31 #[v, .agg (pc c).toArray] w fun e w' => ∃ z : Int, e = .returned (.int .i64 z) ∧ (0 ≤ z ↔ c ∈ l) ∧ Below w.heap.size w w' := by
  obtain ⟨p, cap, rfl, hP⟩ := hP
  rcases hP with rfl | ⟨g, rfl, hP⟩
  · have hB := Lib.hid (below_alloc (Below.refl _ w) (.cells (pc c).toArray 49))
    go_enter Tryz.func31, Tryz.ntmps31
    go_wp2_with fail
    refine wp_loop_rounds 1 ?_
    rw [rounds_succ]
    go_wp2
    go_ret
    exact ⟨-1, rfl, by simp, hB.out⟩
  · have HB := Lib.hid (below_alloc (Below.refl _ w) (.cells (pc c).toArray 49))
    have HR := Lib.hid (Row.new w (pc c).toArray 49)
    have HP := Lib.hid hP
    clear hP
    go_enter Tryz.func31, Tryz.ntmps31
    go_wp2_with fail
    generalize w.alloc (.cells (pc c).toArray 49) = w1 at *
    obtain ⟨gc, hgc⟩ : ∃ gc, gc = w.heap.size := ⟨_, rfl⟩
    rw [← hgc] at HR ⊢
    clear hgc
    go_loopw [8] (fun i wr => ∃ k : Nat, k ≤ l.length ∧ i = .int .i64 k ∧ (∀ j, j < k → l.getD j pk0.1 ≠ c) ∧ Below w1.heap.size w1 wr) (fun i _ => l.length - (intOf i).toNat)
    case atStart => exact ⟨0, by omega, rfl, fun j hj => by omega, Below.refl _ _⟩
    case round =>
      obtain ⟨k, hk, rfl, hno, BB⟩ := hrel
      by_cases hlt : k < l.length
      · have hk1 : (0 : Int) ≤ (k : Int) := by omega
        have hk2 : (k : Int) < (l.length : Int) := by omega
        have R := HR.out.below BB
        have B2 := below_then HB.out BB
        have cw := fun q hq => ((B2.cell (block_lt_of_cell ((pairs_cell HP.out k hlt q hq).trans (List.getElem?_eq_getElem (by rw [pc_len]; exact hq))))).trans (pairs_cell HP.out k hlt q hq))
        generalize hx : l.getD k pk0.1 = x at *
        have HX := Lib.hid hx
        have HNO := Lib.hid hno
        have RG : wr.rangeAt g (k * 6) (pc x) := fun j v hv => by
          have hj : j < 6 := by
            by_cases c : j < 6
            · exact c
            · rw [List.getElem?_eq_none (by rw [pc_len]; omega)] at hv; cases hv
          exact (cw j hj).trans hv
        have RC : wr.rangeAt gc 0 (pc c) := fun j v hv => by
          rw [Nat.zero_add, R.cell j]
          simpa using hv
        clear cw R hx hno
        go_wp2_with fail
        refine region_vals (n := 6) (by kernel_rfl) (fun w' => Below wr.heap.size wr w') (fun i => (#[Value.agg (pc c).toArray, .slice (some ⟨g, 0, none⟩) l.length cap, .int .i64 (k : Int), .pointer (some ⟨g, k * 6, none⟩), .agg (pc x).toArray, .bool (decide (c = x))] : Array Value).getD i undef)
          ⟨#[Value.slice (some { block := g, off := 0 }) l.length cap, Value.agg (pc c).toArray, undef, Value.pointer (some { block := gc, off := 0 }), u4, Value.int IntKind.i64 ↑k, Value.slice (some { block := g, off := 0 }) l.length cap, Value.int IntKind.i64 ↑l.length, Value.int IntKind.i64 ↑k, Value.bool true, Value.int IntKind.i64 ↑k, Value.agg (pc c).toArray, .slice (some ⟨g, 0, none⟩) l.length cap, .int .i64 (k : Int), .pointer (some ⟨g, k * 6, none⟩), .agg (pc x).toArray, .bool (decide (c = x)), u17, u18], []⟩ (by kernel_rfl) (by kernel_rfl) (below_dr (Below.refl _ _)) rfl rfl ?_ ?_
        · intro i o ho wx S
          rcases i with _ | _ | _ | _ | _ | _ | i
          all_goals (first | (simp at ho; done) | (obtain rfl := Option.some.inj ho))
          · exact yv_load rfl S _ _ rfl gc 0 rfl (fun j v hv => cell_then (RC j v hv) S) Tryz.underlying49 rfl (by kernel_rfl)
          · exact yv_val rfl S (by go_simp)
          · exact yv_val rfl S (by go_simp)
          · exact yv_val rfl S (by go_simp)
          · exact yv_load rfl S _ _ rfl g (k * 6) rfl (fun j v hv => cell_then (RG j v hv) S) Tryz.underlying49 rfl (by kernel_rfl)
          · have he := eq_pair c x wx
            exact yv_val rfl S (by go_simp)
        · intro wy S
          by_cases hcx : c = x
          · rw [decide_eq_true hcx]
            go_wp2
            go_ret
            exact ⟨k, rfl, ⟨fun _ => by rw [hcx, ← HX.out]; exact getD_mem hlt, fun _ => by omega⟩, below_then B2 S⟩
          · rw [decide_eq_false hcx]
            have ev : IntKind.i64.wrap ((k : Int) + 1) = ((k + 1 : Nat) : Int) := by rw [IntKind.wrap_i64]; omega
            go_wp2
            refine ⟨⟨k + 1, by omega, by push_cast; rfl, fun j hj => ?_, below_then BB S⟩, by simp [intOf]; omega⟩
            by_cases e : j = k
            · rw [e, HX.out]
              exact fun e2 => hcx e2.symm
            · exact HNO.out j (by omega)
      · obtain rfl : k = l.length := by omega
        have hk0 : ¬ ((l.length : Int) < (l.length : Int)) := by omega
        have HNO := Lib.hid hno
        clear hno
        go_wp2_with fail
        go_ret
        refine ⟨-1, rfl, ⟨fun h => by omega, fun h => ?_⟩, below_then HB.out BB⟩
        obtain ⟨j, hj, e⟩ := List.getElem_of_mem h
        refine absurd ?_ (HNO.out j hj)
        rw [List.getD_eq_getElem?_getD, List.getElem?_eq_getElem hj]
        exact e
theorem contains_any (v : Value) (l : List (K × K)) (c : K × K) (w : World) (hP : PairsAt w v l) (hl : l.length ≤ 1000) :
    Calls Tryz.prog 18 #[v, .agg (pc c).toArray] w fun e w' => e = .returned (.bool (decide (c ∈ l))) ∧ Below w.heap.size w w' := by
  have e : (pc c).toArray = #[.int .u32 (c.1.a : Int), .int .u16 (c.1.e : Int), .int .u16 (c.1.p : Int), .int .u32 (c.2.a : Int), .int .u16 (c.2.e : Int), .int .u16 (c.2.p : Int)] := rfl
  have HB := Lib.hid (below_alloc (Below.refl _ w) (.cells #[.int .u32 (c.1.a : Int), .int .u16 (c.1.e : Int), .int .u16 (c.1.p : Int), .int .u32 (c.2.a : Int), .int .u16 (c.2.e : Int), .int .u16 (c.2.p : Int)] 49))
  have HI := fun W (hb : Below w.heap.size w W) => index_any v l c W (hP.below hb) hl
  rw [e] at HI ⊢
  have HI := Lib.hid HI
  clear hP e
  go_enter Tryz.func18, Tryz.ntmps18
  go_wp2_with fail
  refine (HI.out _ HB.out).mono ?_
  rintro _ w1 ⟨z, rfl, hz, hb⟩
  have HBB := Lib.hid (below_then HB.out hb)
  have HZ := Lib.hid hz
  clear hz hb HI
  go_wp2_with fail
  go_ret
  refine ⟨?_, HBB.out⟩
  show Ending.returned (.bool (decide (0 ≤ z))) = .returned (.bool (decide (c ∈ l)))
  rw [decide_eq_decide.2 HZ.out]
end Go.Proofs.YtahagfdjpldblaaGreatDoor

namespace Go.Proofs.YtahagfdjpldblaaGreatDoor
open Go.RowKit Ky
set_option linter.unusedVariables false
set_option linter.unusedSimpArgs false

theorem sum_perm {s t : List Int} (h : s.Perm t) : s.sum = t.sum := by
  induction h with
  | nil => rfl
  | cons x _ ih => simp only [List.sum_cons, ih]
  | swap x y l => simp only [List.sum_cons]; omega
  | trans _ _ ih1 ih2 => rw [ih1, ih2]
theorem ssum_perm {s t : List (K × Int)} (h : s.Perm t) (c : K) : ssum s c = ssum t c := by
  unfold ssum
  exact sum_perm ((h.filter (fun x => decide (x.1 = c))).map (·.2))
theorem sG_perm {s t : List (K × Int)} (h : s.Perm t) : sG s = sG t := by
  funext c
  unfold sG
  rw [ssum_perm h c]
  by_cases hc : c ∈ s.map (·.1)
  · rw [if_pos hc, if_pos ((h.map (·.1)).mem_iff.1 hc)]
  · rw [if_neg hc, if_neg (fun e => hc ((h.map (·.1)).mem_iff.2 e))]
theorem cG_perm {α : Type} [DecidableEq α] {s t : List α} (h : s.Perm t) : cG s = cG t := by
  funext c
  unfold cG cnt
  rw [h.count_eq]
theorem rot_perm {α : Type} (l : List α) (i : Nat) : (l.drop i ++ l.take i).Perm l :=
  (List.perm_append_comm).trans (by rw [List.take_append_drop])
/-- lists without twins that hold the same and rise are the same -/
theorem rise_one {α : Type} (lt : α → α → Prop) (d : α) (asym : ∀ a b, lt a b → ¬ lt b a) : ∀ (l m : List α), l.Nodup → m.Nodup → (∀ c, c ∈ l ↔ c ∈ m) →
    (∀ i j, i < j → j < l.length → lt (l.getD i d) (l.getD j d)) → (∀ i j, i < j → j < m.length → lt (m.getD i d) (m.getD j d)) → l = m
  | [], [], _, _, _, _, _ => rfl
  | [], y :: m, _, _, h, _, _ => absurd ((h y).2 (List.mem_cons_self ..)) (by simp)
  | x :: l, [], _, _, h, _, _ => absurd ((h x).1 (List.mem_cons_self ..)) (by simp)
  | x :: l, y :: m, hl, hm, h, r1, r2 => by
    have hf : ∀ (z : α) (t : List α), (∀ i j, i < j → j < (z :: t).length → lt ((z :: t).getD i d) ((z :: t).getD j d)) → ∀ c ∈ t, lt z c := fun z t hr c hc => by
      obtain ⟨j, hj, e⟩ := List.getElem_of_mem hc
      have := hr 0 (j + 1) (by omega) (by simp; omega)
      simp only [List.getD_cons_zero, List.getD_cons_succ] at this
      rw [List.getD_eq_getElem?_getD, List.getElem?_eq_getElem hj, e] at this
      exact this
    have e : x = y := by
      rcases List.mem_cons.1 ((h x).1 (List.mem_cons_self ..)) with e | e
      · exact e
      · rcases List.mem_cons.1 ((h y).2 (List.mem_cons_self ..)) with e2 | e2
        · exact e2.symm
        · exact absurd (hf y m r2 x e) (asym _ _ (hf x l r1 y e2))
    subst e
    rw [List.nodup_cons] at hl hm
    have ht : l = m := rise_one lt d asym l m hl.2 hm.2 (fun c => ⟨fun hc => by
        rcases List.mem_cons.1 ((h c).1 (List.mem_cons_of_mem _ hc)) with e | e
        · exact absurd (e ▸ hc) hl.1
        · exact e, fun hc => by
        rcases List.mem_cons.1 ((h c).2 (List.mem_cons_of_mem _ hc)) with e | e
        · exact absurd (e ▸ hc) hm.1
        · exact e⟩)
      (fun i j hij hj => by have := r1 (i + 1) (j + 1) (by omega) (by simp; omega); simpa using this)
      (fun i j hij hj => by have := r2 (i + 1) (j + 1) (by omega) (by simp; omega); simpa using this)
    rw [ht]
theorem getD_ne {α : Type} {l : List α} (hn : l.Nodup) {i j : Nat} (hij : i < j) (hj : j < l.length) (d : α) : l.getD i d ≠ l.getD j d := fun e => by
  have hi : i < l.length := by omega
  rw [List.getD_eq_getElem?_getD, List.getElem?_eq_getElem hi, List.getD_eq_getElem?_getD, List.getElem?_eq_getElem hj] at e
  have h3 := (List.getElem_inj (i := i) (j := j) (h₀ := hi) (h₁ := hj) hn).1 e
  omega
theorem keys_one (l m : List K) (hl : l.Nodup) (hm : m.Nodup) (h : ∀ c, c ∈ l ↔ c ∈ m) (r1 : RiseK l) (r2 : RiseK m) (ok : ∀ c ∈ l, K.ok c) : l = m := by
  have st : ∀ (t : List K), t.Nodup → RiseK t → (∀ c ∈ t, K.ok c) → ∀ i j, i < j → j < t.length → (t.getD i kk0.1).num < (t.getD j kk0.1).num := fun t hn r ok i j hij hj => by
    have h1 := r i j hij hj
    rw [kcmp_lt] at h1
    have h2 : (t.getD i kk0.1).num ≠ (t.getD j kk0.1).num := fun e => getD_ne hn hij hj _ (num_inj (ok _ (getD_mem (by omega))) (ok _ (getD_mem hj)) e)
    omega
  exact rise_one (fun a b => a.num < b.num) kk0.1 (fun a b h => by omega) l m hl hm h (st l hl r1 ok) (st m hm r2 (fun c hc => ok c ((h c).2 hc)))
theorem pairs_one (l m : List (K × K)) (hl : l.Nodup) (hm : m.Nodup) (h : ∀ c, c ∈ l ↔ c ∈ m) (r1 : Rise l) (r2 : Rise m) (ok : ∀ c ∈ l, okp c) : l = m := by
  have st : ∀ (t : List (K × K)), t.Nodup → Rise t → (∀ c ∈ t, okp c) → ∀ i j, i < j → j < t.length → pcmp (t.getD i pk0.1) (t.getD j pk0.1) < 0 := fun t hn r ok i j hij hj =>
    pcmp_tri (r i j hij hj) (ok _ (getD_mem (by omega))) (ok _ (getD_mem hj)) (getD_ne hn hij hj _)
  exact rise_one (fun a b => pcmp a b < 0) pk0.1 (fun a b h => by rw [pcmp_lt] at *; omega) l m hl hm h (st l hl r1 ok) (st m hm r2 (fun c hc => ok c ((h c).2 hc)))
/-! blocks that stay -/
theorem MapIs.grown {κ ν : Type} {w w' : World} {P : Program} {k : TypeId} {enc : κ → Value} {vl : ν → Value} {b b' n : Nat} {G : κ → Option ν} (h : MapIs w P k enc vl b n G) (hg : w.grownBy w' (some b')) (hne : b ≠ b') : MapIs w' P k enc vl b n G := by
  have hlt := h.lt
  obtain ⟨es, clock, h1, h2⟩ := h
  exact ⟨es, clock, (hg.block b hlt (by intro e; injection e with e; exact hne e)).trans h1, h2⟩
theorem cell_of_block {w w' : World} {g o : Nat} (h : w'.heap[g]? = w.heap[g]?) : w'.cell? ⟨g, o, none⟩ = w.cell? ⟨g, o, none⟩ := by
  simp only [World.cell?, h]
theorem ElsAt.grown {E : Type} {f : E → List Value} {sz : Nat} {d : E} {w w' : World} {g o b' : Nat} {l : List E} (h : ElsAt f sz d w (some ⟨g, o, none⟩) l) (hlt : g < w.heap.size) (hg : w.grownBy w' (some b')) (hne : g ≠ b') : ElsAt f sz d w' (some ⟨g, o, none⟩) l := by
  rcases h with h | ⟨b, off, e, h⟩
  · exact .inl h
  · injection e with e
    injection e with e1 e2
    subst e1 e2
    refine .inr ⟨_, _, rfl, fun i hi j v hv => ?_⟩
    rw [cell_of_block (hg.block _ hlt (by intro e; injection e with e; exact hne e))]
    exact h i hi j v hv
/-! slices.Clone over keys with numbers -/
def ms (l : List (K × Int)) : List Value := l.flatMap mc
theorem ms_len (l : List (K × Int)) : (ms l).length = l.length * 4 := by
  induction l with
  | nil => rfl
  | cons c l ih => simp only [ms, List.flatMap_cons, List.length_append, mc_len, List.length_cons] at *; omega
theorem ms_get (l : List (K × Int)) : ∀ (t : Nat), t < l.length * 4 → (ms l)[t]? = (mc (l.getD (t / 4) mk0))[t % 4]? := by
  induction l with
  | nil => intro t h; simp at h
  | cons c l ih =>
    intro t h
    have e : ms (c :: l) = mc c ++ ms l := rfl
    rw [e]
    by_cases ht : t < 4
    · rw [List.getElem?_append_left (by rw [mc_len]; exact ht), show t / 4 = 0 by omega, show t % 4 = t by omega]
      rfl
    · rw [List.getElem?_append_right (by rw [mc_len]; omega), mc_len, ih (t - 4) (by simp at h; omega), show (t - 4) / 4 = t / 4 - 1 by omega, show (t - 4) % 4 = t % 4 by omega]
      obtain ⟨q, hq⟩ : ∃ q, t / 4 = q + 1 := ⟨t / 4 - 1, by omega⟩
      rw [hq]
      rfl
theorem ms_one (l : List (K × Int)) : ∀ u ∈ ms l, u.oneCell' = true := by
  intro u hu
  obtain ⟨x, _, hx⟩ := List.mem_flatMap.1 hu
  simp [mc] at hx
  rcases hx with rfl | rfl | rfl | rfl <;> rfl
theorem ms_cells {w : World} {b off : Nat} {l : List (K × Int)} (h : ∀ i, i < l.length → w.rangeAt b (off + i * 4) (mc (l.getD i mk0))) : ∀ j u, (ms l)[j]? = some u → w.cell? ⟨b, off + j, none⟩ = some u := by
  intro j u hj
  have hlt : j < l.length * 4 := by
    by_cases c : j < l.length * 4
    · exact c
    · rw [List.getElem?_eq_none (by rw [ms_len]; omega)] at hj; cases hj
  rw [ms_get l j hlt] at hj
  have := h (j / 4) (by omega) (j % 4) u hj
  rwa [show off + j / 4 * 4 + j % 4 = off + j by omega] at this
theorem els_of_own {w : World} {B n : Nat} {e : TypeId} {v : Value} {l : List (K × Int)} (h : w.ownsRow B e 4 v n (ms l)) (hn : 0 < n) : l.length = n ∧ ∃ g cap, v = .slice (some ⟨g, 0, none⟩) n cap ∧ B ≤ g ∧ g < w.heap.size ∧ ElsAt mc 4 mk0 w (some ⟨g, 0, none⟩) l := by
  obtain ⟨h1, h2⟩ := h
  have hl : l.length = n := by rw [ms_len] at h1; omega
  refine ⟨hl, ?_⟩
  rcases h2 with ⟨rfl, rfl⟩ | ⟨g, cap, cur, rfl, hg, hh, _, _, hs, ht⟩
  · omega
  · have hlt : g < w.heap.size := by
      by_cases c : g < w.heap.size
      · exact c
      · rw [Array.getElem?_eq_none (by omega)] at hh; cases hh
    refine ⟨g, cap, rfl, hg, hlt, .inr ⟨g, 0, rfl, fun i hi j v hv => ?_⟩⟩
    have hj : j < 4 := by
      by_cases c : j < 4
      · exact c
      · rw [List.getElem?_eq_none (by rw [mc_len]; omega)] at hv; cases hv
    have e1 := ms_get l (i * 4 + j) (by omega)
    rw [show (i * 4 + j) / 4 = i by omega, show (i * 4 + j) % 4 = j by omega, hv, ← ht, List.getElem?_take, if_pos (by omega)] at e1
    rw [cell_of_row w g (0 + i * 4 + j) cur e _ hh, show 0 + i * 4 + j = i * 4 + j by omega]
    simpa using e1
theorem info_more : ∃ i, Tryz.prog.info? 31 = some i ∧ i.zero = some (.agg (mc mk0).toArray) ∧ i.size = 4 ∧ i.bytes = 16 := by
  have h : (Tryz.prog.info? 31).map (fun i => (i.zero, i.size, i.bytes)) = some (some (.agg (mc mk0).toArray), 4, 16) := by kernel_rfl
  obtain ⟨i, hi, h⟩ := Option.map_eq_some_iff.1 h
  simp only [Prod.mk.injEq] at h
  exact ⟨i, hi, h.1, h.2.1, h.2.2⟩
def renC : Go.Shelf.Ren := ⟨fun | 41 => 19 | n => n, fun | 22 => 22 | 23 => 31 | 4 => 4 | n => n, fun | n => n⟩
theorem laysC : SlLaysE0.n41 Tryz.prog renC := {
  mixed := by kernel_rfl
  f41 := ⟨Tryz.f19.name, by decide, Tryz.func19.trans (congrArg some (by kernel_rfl))⟩
  t4 := Tryz.underlying4
  a4 := Tryz.isAgg4
  z4 := Tryz.sizeOf4
  v4 := Tryz.zeroValue4
  t22 := Tryz.underlying22
  a22 := Tryz.isAgg22
  z22 := Tryz.sizeOf22
  v22 := Tryz.zeroValue22 }
theorem clone_mores (b off n c : Nat) (l : List (K × Int)) (w : World) (h : ∀ j u, (ms l)[j]? = some u → w.cell? ⟨b, off + j, none⟩ = some u) (hl : l.length = n) (hn : n ≤ 1000) :
    Calls Tryz.prog 19 #[.slice (some ⟨b, off, none⟩) n c] w fun e w' => ∃ v, e = .returned v ∧ w'.ownsRow w.heap.size 31 4 v n (ms l) ∧ Below w.heap.size w w' := by
  obtain ⟨i, hi, h1, h2, h3⟩ := info_more
  have z : ∀ w, (Go.sizeOf 31).run Tryz.prog w = .ok 4 w := fun w => by kernel_rfl
  refine (AnyE.slices_Clone laysC i (.agg (mc mk0).toArray) 4 16 hi h1 h2 h3 rfl (by omega) z b off n c (ms l) w (by rw [ms_len, hl]) (by unfold maxLen; omega) (by omega) h (ms_one l)).mono ?_
  rintro e w' ⟨v, rfl, ho, _, hb⟩
  exact ⟨v, rfl, ho, hb⟩
theorem own_mono4 {w : World} {B B' : Nat} {e : TypeId} {size n : Nat} {v : Value} {xs : List Value} (h : w.ownsRow B e size v n xs) (hb : B' ≤ B) : w.ownsRow B' e size v n xs := by
  obtain ⟨h1, h2⟩ := h
  refine ⟨h1, ?_⟩
  rcases h2 with h2 | ⟨g, cap, cur, e1, e2, e3⟩
  · exact .inl h2
  · exact .inr ⟨g, cap, cur, e1, Nat.le_trans hb e2, e3⟩
theorem run_append_op {P : Program} {ρ : Operand → Value} {o : Oper} (s x : Operand) (t1 t2 : TypeId) (ho : o.op = .call { callee := .builtin .append, args := #[s, x], argTypes := #[t1, t2] }) {vs vx v' : Value} (hs : ρ s = vs) (hx : ρ x = vx) {w w' : World} (hr : (Builtin.append_ #[t1, t2] o.type #[vs, vx]).run P w = .ok v' w') : (execOp ρ o).run P w = .ok (.value v') w' := by
  unfold execOp
  simp only [ho, resolve, invoke, builtin, Sem.run_bind, Sem.run_pure, Result.andThen_ok, List.map_toArray, List.map_cons, List.map_nil, hs, hx, hr]
/-- append to a row of one's own -/
theorem append_mores (W : World) (B : Nat) (ty : TypeId) (v : Value) (n : Nat) (xs : List (K × Int)) (hown : W.ownsRow B 31 4 v n (ms xs)) (b off m c : Nat) (zs : List (K × Int)) (hl : zs.length = m) (hz : ∀ j u, (ms zs)[j]? = some u → W.cell? ⟨b, off + j, none⟩ = some u) (hn : n + m ≤ 1000) (hB : B ≤ W.heap.size) :
    ∃ v' w', (Builtin.append_ #[22, 22] ty #[v, .slice (some ⟨b, off, none⟩) m c]).run Tryz.prog W = .ok v' w' ∧ w'.ownsRow B 31 4 v' (n + m) (ms (xs ++ zs)) ∧ Below B W w' := by
  obtain ⟨i, hi, h1, h2, h3⟩ := info_more
  have hadd : ∀ j, (⟨b, off, none⟩ : Addr).add j = ⟨b, off + j, none⟩ := fun j => by simp [Addr.add]
  obtain ⟨v', w', hr, k2, k3, k4, k5⟩ := run_append_own_at (P := Tryz.prog) W B 22 ty 31 i (.agg (mc mk0).toArray) 4 16 Tryz.underlying22 hi h1 h2 h3 rfl (by omega) v n (ms xs) hown ⟨b, off, none⟩ m c (ms zs) (by rw [ms_len, hl]) (fun j u hj => by rw [hadd]; exact hz j u hj) (ms_one zs) (by unfold maxLen; omega) (by omega) hB
  refine ⟨v', w', hr, by rw [show ms (xs ++ zs) = ms xs ++ ms zs by simp [ms]]; exact k2, (Below.refl B W).grown k3 hB ?_⟩
  intro k hk
  rcases hown.2 with ⟨rfl, _⟩ | ⟨g, cap, cur, rfl, hg, _⟩
  · simp [Value.ownBlock] at hk
  · simp [Value.ownBlock] at hk
    omega
end Go.Proofs.YtahagfdjpldblaaGreatDoor

namespace Go.Proofs.YtahagfdjpldblaaGreatDoor
open Go.RowKit Ky
set_option linter.unusedVariables false
set_option linter.unusedSimpArgs false

theorem sortedK_none (w : World) : Calls Tryz.prog 26 #[.map none, .func (.func 27) #[] #[]] w fun e w' => e = .returned (.slice none 0 0) ∧ Below w.heap.size w w' := by
  have HN := Lib.hid fun W => AnyF.slices_SortFunc_none { Tryz.laysSlF06_f35 with } none 0 (.func (.func 27) #[] #[]) W
  have hrg := run_range_nilMap (P := Tryz.prog) w 24 29 44 Tryz.underlying24
  have hnx := run_next_nilMap (P := Tryz.prog) w 0 0 0 #[]
  go_enter Tryz.func26, Tryz.ntmps26
  go_wp2_with fail
  refine wp_loop_rounds 1 ?_
  rw [rounds_succ]
  go_wp2_with fail
  refine (HN.out _).mono ?_
  rintro _ w1 ⟨rfl, rfl⟩
  go_wp2
  go_ret
  exact ⟨rfl, below_alloc (Below.refl _ w) _⟩
theorem keys_none (w : World) : Calls Tryz.prog 9 #[.map none] w fun e w' => e = .returned (.slice none 0 0) ∧ Below w.heap.size w w' := by
  go_enter Tryz.func9, Tryz.ntmps9
  go_wp2_with fail
  refine (sortedK_none _).mono ?_
  rintro _ w1 ⟨rfl, hb⟩
  go_wp2
  go_ret
  exact ⟨rfl, hb⟩
end Go.Proofs.YtahagfdjpldblaaGreatDoor
