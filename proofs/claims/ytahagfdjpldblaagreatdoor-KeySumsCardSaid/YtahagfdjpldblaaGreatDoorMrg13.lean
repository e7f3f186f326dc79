/-
  Own texts, several in one (Pairs2, Keys, Small).
-/
import Derived.Test.YtahagfdjpldblaaGreatDoorMrg12
import Derived.Shelf.SlSortCmp.NoneTotal
namespace Go.Proofs.YtahagfdjpldblaaGreatDoor
open Go.RowKit Ky Go.Lib Go.Sort
set_option linter.unusedVariables false
set_option linter.unusedSimpArgs false

abbrev PK := { c : K × K // okp c }
def pk0 : PK := ⟨(⟨0, 0, 0⟩, ⟨0, 0, 0⟩), by unfold okp K.ok; decide⟩
instance : Inhabited PK := ⟨pk0⟩
def epk (x : PK) : List Value := pc x.1
/-- these pairs lie in a slice -/
def PairsAt (w : World) (v : Value) (l : List (K × K)) : Prop := ∃ p cap, v = .slice p l.length cap ∧ (l = [] ∨ ∃ g, p = some ⟨g, 0, none⟩ ∧ ∀ t u, (pcs l)[t]? = some u → w.cell? ⟨g, t, none⟩ = some u)
theorem pcs_get (l : List (K × K)) : ∀ (t : Nat), t < l.length * 6 → (pcs l)[t]? = (pc (l.getD (t / 6) pk0.1))[t % 6]? := by
  induction l with
  | nil => intro t h; simp at h
  | cons c l ih =>
    intro t h
    have e : pcs (c :: l) = pc c ++ pcs l := rfl
    rw [e]
    by_cases ht : t < 6
    · rw [List.getElem?_append_left (by rw [pc_len]; exact ht), show t / 6 = 0 by omega, show t % 6 = t by omega]
      rfl
    · rw [List.getElem?_append_right (by rw [pc_len]; omega), pc_len, ih (t - 6) (by simp at h; omega), show (t - 6) / 6 = t / 6 - 1 by omega, show (t - 6) % 6 = t % 6 by omega]
      obtain ⟨q, hq⟩ : ∃ q, t / 6 = q + 1 := ⟨t / 6 - 1, by omega⟩
      rw [hq]
      rfl
theorem flat_get (d : Array PK) (t : Nat) (h : t < d.size * 6) : (pcs (d.toList.map (·.1)))[t]? = some (flatK epk 6 d)[t]! := by
  rw [get_flatK epk 6 d t h, pcs_get _ t (by simpa using h)]
  have h1 : t / 6 < d.size := by omega
  have e1 : (d.toList.map (·.1)).getD (t / 6) pk0.1 = (d[t / 6]!).1 := by
    rw [List.getD_eq_getElem?_getD, List.getElem?_map, Array.getElem?_toList, Array.getElem?_eq_getElem h1, getElem!_pos d (t / 6) h1]
    rfl
  rw [e1]
  unfold epk
  have h2 : t % 6 < (pc (d[t / 6]!).1).length := by rw [pc_len]; omega
  rw [List.getElem?_eq_getElem h2, getElem!_pos (pc (d[t / 6]!).1) (t % 6) h2]
theorem cmpLays (blk off size : Nat) (w : World) : CmpLays Tryz.prog 30 #[] epk 6 (fun c d : PK => pcmp c.1 d.1) blk off size w :=
  fun _ _ _ _ x y => pairs_cmp x.1 y.1 x.2 y.2 _
set_option maxHeartbeats 1000000 in
theorem sort_pairs (W : World) (B : Nat) (v : Value) (l : List (K × K)) (hB : B ≤ W.heap.size) (hl : l.length ≤ 1000) (hok : ∀ c ∈ l, okp c) (hown : W.ownsRow B 49 6 v l.length (pcs l)) :
    Calls Tryz.prog 37 #[v, .func (.func 30) #[] #[]] W fun e w' => e = .returned (.tuple #[]) ∧ ∃ l', l'.Perm l ∧ ((∀ i j, i < j → j < l'.length → ¬ pcmp (l'.getD j pk0.1) (l'.getD i pk0.1) < 0) ∧ PairsAt w' v l') ∧ Below B W w' := by
  rcases hown.2 with ⟨rfl, h0⟩ | ⟨g, cap, cur, rfl, hg, hh, hc, hm, hs, ht⟩
  · have hl0 : l = [] := List.length_eq_zero_iff.1 h0
    subst hl0
    refine (AnyF.slices_SortFunc_none { Tryz.laysSlF06_f37 with } none 0 _ W).mono ?_
    rintro e w' ⟨rfl, rfl⟩
    exact ⟨rfl, [], List.Perm.refl _, ⟨fun i j _ h => by simp at h, none, 0, rfl, .inl rfl⟩, ⟨rfl, rfl, rfl, Nat.le_refl _, fun _ _ => rfl⟩⟩
  · obtain ⟨d, hd⟩ : ∃ d : Array PK, d.toList.map (·.1) = l := ⟨(l.attach.map fun x => (⟨x.1, hok x.1 x.2⟩ : PK)).toArray, by
      rw [List.toList_toArray, List.map_map]
      exact List.attach_map_subtype_val l⟩
    have hsz : d.size = l.length := by rw [← hd]; simp
    have hcell : ∀ t u, (pcs l)[t]? = some u → W.cell? ⟨g, t, none⟩ = some u ∧ W.frozen? ⟨g, t, none⟩ = false := fun t u hu => by
      have hlt : t < l.length * 6 := by
        by_cases c : t < l.length * 6
        · exact c
        · rw [List.getElem?_eq_none (by rw [pcs_len]; omega)] at hu; cases hu
      refine ⟨?_, frozen_of_row W g t cur _ hh⟩
      rw [cell_of_row W g t cur _ _ hh]
      rw [← ht, List.getElem?_take, if_pos hlt] at hu
      simpa using hu
    have hH : HoldsK epk 6 W g 0 d := fun j hj => by
      rw [size_flatK] at hj
      rw [Nat.zero_add]
      have := flat_get d j hj
      rw [hd] at this
      exact hcell j _ this
    have hgl : g < W.heap.size := by
      by_cases c : g < W.heap.size
      · exact c
      · rw [Array.getElem?_eq_none (by omega)] at hh; cases hh
    have eg : ∀ args w, (callFunc 30 args).run Tryz.prog w = .ok (.enter 30 args) w := enters_of Tryz.func30 (by kernel_rfl) rfl
    have hcon := AnyQ.slices_SortFunc Tryz.laysSlF06_f37 6 Tryz.isAgg49 Tryz.sizeOf49 epk (fun _ => rfl) (fun x v hv => pc_one x.1 v hv) (fun c d : PK => pcmp c.1 d.1) pcmp_swo 30 #[] g 0 cap d W eg (cmpLays g 0 d.size W) hH hgl (by omega)
    rw [hsz] at hcon
    refine hcon.mono ?_
    rintro e w' ⟨rfl, d', n, os, hp, hsd, rfl⟩
    obtain ⟨hp1, _, hp3⟩ := hp
    have hz : d'.size = l.length := by rw [hp1, hsz]
    have hperm : (d'.toList.map (·.1)).Perm l := by
      have h1 : d'.extract 0 l.length = d' := by rw [← hz]; exact Array.extract_size
      have h2 : d.extract 0 l.length = d := by rw [← hsz]; exact Array.extract_size
      rw [h1, h2] at hp3
      rw [← hd]
      exact hp3.map _
    have hget : ∀ j, j < l.length → (d'.toList.map (·.1)).getD j pk0.1 = (d'[j]!).1 := fun j hj => by
      rw [List.getD_eq_getElem?_getD, List.getElem?_map, Array.getElem?_toList, Array.getElem?_eq_getElem (by omega), getElem!_pos d' j (by omega)]
      rfl
    have hlen : (d'.toList.map (·.1)).length = l.length := by simp [hz]
    refine ⟨rfl, _, hperm, ⟨fun i j hij hj => ?_, some ⟨g, 0, none⟩, cap, by rw [hlen], .inr ⟨g, rfl, fun t u hu => ?_⟩⟩, ?_⟩
    · rw [hlen] at hj
      have h := hsd i j (Nat.zero_le _) hij hj
      unfold ltOf at h
      rw [decide_eq_false_iff_not] at h
      rw [hget j hj, hget i (by omega)]
      exact h
    · have hlt : t < d'.size * 6 := by
        by_cases c : t < d'.size * 6
        · exact c
        · rw [List.getElem?_eq_none (by rw [pcs_len]; simp; omega)] at hu; cases hu
      have h3 := flat_get d' t hlt
      rw [hu] at h3
      unfold sortWorldK
      rw [cell?_grow _ _ _ (by unfold putRowK; rw [size_putRow]; exact hgl)]
      have h4 := cell?_putRow id (Sort.ahead W n) g 0 (flatK epk 6 d) (flatK epk 6 d') (holds_ahead _ _ _ _ _ _ hH) (by rw [size_flatK, size_flatK, hp1]) t (by rw [size_flatK]; exact hlt)
      rw [Nat.zero_add] at h4
      exact h4.trans h3.symm
    · refine ⟨rfl, rfl, rfl, ?_, fun k hk => ?_⟩
      · unfold sortWorldK putRowK
        simp [grow, putRow, mapBlock, Sort.ahead]
      · unfold sortWorldK putRowK
        rw [Go.Sort.heap_grow_old _ _ (by rw [size_putRow]; show k < W.heap.size; omega)]
        show (W.heap.modify g _)[k]? = _
        rw [Array.getElem?_modify, if_neg (by omega)]
/-- these pairs rise -/
def Rise (l : List (K × K)) : Prop := ∀ i j, i < j → j < l.length → ¬ pcmp (l.getD j pk0.1) (l.getD i pk0.1) < 0
theorem pairs_any (b n : Nat) (G : K × K → Option Nat) (w : World) (hn : n ≤ 1000) (hG : ∀ c u, G c = some u → okp c) (hM : MapIs w Tryz.prog 49 pval lval b n G) :
    Calls Tryz.prog 16 #[.map (some b)] w fun e w' => ∃ v l, e = .returned v ∧ l.Nodup ∧ (∀ c, c ∈ l ↔ ∃ u, G c = some u) ∧ Rise l ∧ PairsAt w' v l ∧ Below w.heap.size w w' := by
  have S := Lib.hid (sortedL_any b n G (.func (.func 30) #[] #[]) w hn (fun w' v l => Rise l ∧ PairsAt w' v l) hM (fun W B v l hB hl hmem hown => sort_pairs W B v l hB hl (fun c hc => by obtain ⟨u, hu⟩ := hmem c hc; exact hG c u hu) hown))
  clear hM hG
  go_enter Tryz.func16, Tryz.ntmps16
  go_wp2_with fail
  refine S.out.mono ?_
  rintro _ w1 ⟨v, l, rfl, h1, h2, ⟨h3, h4⟩, h5⟩
  go_wp2
  go_ret
  exact ⟨v, l, rfl, h1, h2, h3, h4, h5⟩
end Go.Proofs.YtahagfdjpldblaaGreatDoor

namespace Go.Proofs.YtahagfdjpldblaaGreatDoor
open Go.RowKit Ky Go.Lib Go.Sort
set_option linter.unusedVariables false
set_option linter.unusedSimpArgs false

def kcmp (c d : K) : Int := Ky.cmp c.num d.num
theorem kcmp_lt (c d : K) : kcmp c d < 0 ↔ c.num < d.num := cmp_lt _ _
theorem kcmp_swo : SWO (ltOf fun c d : { c : K // K.ok c } => kcmp c.1 d.1) where
  irrefl x := by unfold ltOf; rw [decide_eq_false_iff_not, kcmp_lt]; omega
  trans x y z h1 h2 := by unfold ltOf at *; rw [decide_eq_true_eq, kcmp_lt] at *; omega
  ntrans x y z h1 h2 := by unfold ltOf at *; rw [decide_eq_false_iff_not, kcmp_lt] at *; omega
abbrev KK := { c : K // K.ok c }
def kk0 : KK := ⟨⟨0, 0, 0⟩, by unfold K.ok; decide⟩
instance : Inhabited KK := ⟨kk0⟩
def ekk (x : KK) : List Value := kc x.1
/-- these pairs lie in a slice -/
def KeysAt (w : World) (v : Value) (l : List K) : Prop := ∃ p cap, v = .slice p l.length cap ∧ (l = [] ∨ ∃ g, p = some ⟨g, 0, none⟩ ∧ ∀ t u, (kcs l)[t]? = some u → w.cell? ⟨g, t, none⟩ = some u)
theorem kcs_get (l : List K) : ∀ (t : Nat), t < l.length * 3 → (kcs l)[t]? = (kc (l.getD (t / 3) kk0.1))[t % 3]? := by
  induction l with
  | nil => intro t h; simp at h
  | cons c l ih =>
    intro t h
    have e : kcs (c :: l) = kc c ++ kcs l := rfl
    rw [e]
    by_cases ht : t < 3
    · rw [List.getElem?_append_left (by rw [kc_len]; exact ht), show t / 3 = 0 by omega, show t % 3 = t by omega]
      rfl
    · rw [List.getElem?_append_right (by rw [kc_len]; omega), kc_len, ih (t - 3) (by simp at h; omega), show (t - 3) / 3 = t / 3 - 1 by omega, show (t - 3) % 3 = t % 3 by omega]
      obtain ⟨q, hq⟩ : ∃ q, t / 3 = q + 1 := ⟨t / 3 - 1, by omega⟩
      rw [hq]
      rfl
theorem flat_getK (d : Array KK) (t : Nat) (h : t < d.size * 3) : (kcs (d.toList.map (·.1)))[t]? = some (flatK ekk 3 d)[t]! := by
  rw [get_flatK ekk 3 d t h, kcs_get _ t (by simpa using h)]
  have h1 : t / 3 < d.size := by omega
  have e1 : (d.toList.map (·.1)).getD (t / 3) kk0.1 = (d[t / 3]!).1 := by
    rw [List.getD_eq_getElem?_getD, List.getElem?_map, Array.getElem?_toList, Array.getElem?_eq_getElem h1, getElem!_pos d (t / 3) h1]
    rfl
  rw [e1]
  unfold ekk
  have h2 : t % 3 < (kc (d[t / 3]!).1).length := by rw [kc_len]; omega
  rw [List.getElem?_eq_getElem h2, getElem!_pos (kc (d[t / 3]!).1) (t % 3) h2]
theorem cmpLaysK (blk off size : Nat) (w : World) : CmpLays Tryz.prog 27 #[] ekk 3 (fun c d : KK => kcmp c.1 d.1) blk off size w :=
  fun _ _ _ _ x y => compare_gr x.1 y.1 x.2 y.2 _
set_option maxHeartbeats 1000000 in
theorem sort_keys (W : World) (B : Nat) (v : Value) (l : List K) (hB : B ≤ W.heap.size) (hl : l.length ≤ 1000) (hok : ∀ c ∈ l, K.ok c) (hown : W.ownsRow B 29 3 v l.length (kcs l)) :
    Calls Tryz.prog 35 #[v, .func (.func 27) #[] #[]] W fun e w' => e = .returned (.tuple #[]) ∧ ∃ l', l'.Perm l ∧ ((∀ i j, i < j → j < l'.length → ¬ kcmp (l'.getD j kk0.1) (l'.getD i kk0.1) < 0) ∧ KeysAt w' v l') ∧ Below B W w' := by
  rcases hown.2 with ⟨rfl, h0⟩ | ⟨g, cap, cur, rfl, hg, hh, hc, hm, hs, ht⟩
  · have hl0 : l = [] := List.length_eq_zero_iff.1 h0
    subst hl0
    refine (AnyF.slices_SortFunc_none { Tryz.laysSlF06_f35 with } none 0 _ W).mono ?_
    rintro e w' ⟨rfl, rfl⟩
    exact ⟨rfl, [], List.Perm.refl _, ⟨fun i j _ h => by simp at h, none, 0, rfl, .inl rfl⟩, ⟨rfl, rfl, rfl, Nat.le_refl _, fun _ _ => rfl⟩⟩
  · obtain ⟨d, hd⟩ : ∃ d : Array KK, d.toList.map (·.1) = l := ⟨(l.attach.map fun x => (⟨x.1, hok x.1 x.2⟩ : KK)).toArray, by
      rw [List.toList_toArray, List.map_map]
      exact List.attach_map_subtype_val l⟩
    have hsz : d.size = l.length := by rw [← hd]; simp
    have hcell : ∀ t u, (kcs l)[t]? = some u → W.cell? ⟨g, t, none⟩ = some u ∧ W.frozen? ⟨g, t, none⟩ = false := fun t u hu => by
      have hlt : t < l.length * 3 := by
        by_cases c : t < l.length * 3
        · exact c
        · rw [List.getElem?_eq_none (by rw [kcs_len]; omega)] at hu; cases hu
      refine ⟨?_, frozen_of_row W g t cur _ hh⟩
      rw [cell_of_row W g t cur _ _ hh]
      rw [← ht, List.getElem?_take, if_pos hlt] at hu
      simpa using hu
    have hH : HoldsK ekk 3 W g 0 d := fun j hj => by
      rw [size_flatK] at hj
      rw [Nat.zero_add]
      have := flat_getK d j hj
      rw [hd] at this
      exact hcell j _ this
    have hgl : g < W.heap.size := by
      by_cases c : g < W.heap.size
      · exact c
      · rw [Array.getElem?_eq_none (by omega)] at hh; cases hh
    have eg : ∀ args w, (callFunc 27 args).run Tryz.prog w = .ok (.enter 27 args) w := enters_of Tryz.func27 (by kernel_rfl) rfl
    have hcon := AnyQ.slices_SortFunc Tryz.laysSlF06_f35 3 Tryz.isAgg29 Tryz.sizeOf29 ekk (fun _ => rfl) (fun x v hv => kc_one x.1 v hv) (fun c d : KK => kcmp c.1 d.1) kcmp_swo 27 #[] g 0 cap d W eg (cmpLaysK g 0 d.size W) hH hgl (by omega)
    rw [hsz] at hcon
    refine hcon.mono ?_
    rintro e w' ⟨rfl, d', n, os, hp, hsd, rfl⟩
    obtain ⟨hp1, _, hp3⟩ := hp
    have hz : d'.size = l.length := by rw [hp1, hsz]
    have hperm : (d'.toList.map (·.1)).Perm l := by
      have h1 : d'.extract 0 l.length = d' := by rw [← hz]; exact Array.extract_size
      have h2 : d.extract 0 l.length = d := by rw [← hsz]; exact Array.extract_size
      rw [h1, h2] at hp3
      rw [← hd]
      exact hp3.map _
    have hget : ∀ j, j < l.length → (d'.toList.map (·.1)).getD j kk0.1 = (d'[j]!).1 := fun j hj => by
      rw [List.getD_eq_getElem?_getD, List.getElem?_map, Array.getElem?_toList, Array.getElem?_eq_getElem (by omega), getElem!_pos d' j (by omega)]
      rfl
    have hlen : (d'.toList.map (·.1)).length = l.length := by simp [hz]
    refine ⟨rfl, _, hperm, ⟨fun i j hij hj => ?_, some ⟨g, 0, none⟩, cap, by rw [hlen], .inr ⟨g, rfl, fun t u hu => ?_⟩⟩, ?_⟩
    · rw [hlen] at hj
      have h := hsd i j (Nat.zero_le _) hij hj
      unfold ltOf at h
      rw [decide_eq_false_iff_not] at h
      rw [hget j hj, hget i (by omega)]
      exact h
    · have hlt : t < d'.size * 3 := by
        by_cases c : t < d'.size * 3
        · exact c
        · rw [List.getElem?_eq_none (by rw [kcs_len]; simp; omega)] at hu; cases hu
      have h3 := flat_getK d' t hlt
      rw [hu] at h3
      unfold sortWorldK
      rw [cell?_grow _ _ _ (by unfold putRowK; rw [size_putRow]; exact hgl)]
      have h4 := cell?_putRow id (Sort.ahead W n) g 0 (flatK ekk 3 d) (flatK ekk 3 d') (holds_ahead _ _ _ _ _ _ hH) (by rw [size_flatK, size_flatK, hp1]) t (by rw [size_flatK]; exact hlt)
      rw [Nat.zero_add] at h4
      exact h4.trans h3.symm
    · refine ⟨rfl, rfl, rfl, ?_, fun k hk => ?_⟩
      · unfold sortWorldK putRowK
        simp [grow, putRow, mapBlock, Sort.ahead]
      · unfold sortWorldK putRowK
        rw [Go.Sort.heap_grow_old _ _ (by rw [size_putRow]; show k < W.heap.size; omega)]
        show (W.heap.modify g _)[k]? = _
        rw [Array.getElem?_modify, if_neg (by omega)]
/-- these pairs rise -/
def RiseK (l : List K) : Prop := ∀ i j, i < j → j < l.length → ¬ kcmp (l.getD j kk0.1) (l.getD i kk0.1) < 0
theorem keys_any (b n : Nat) (G : K → Option Int) (w : World) (hn : n ≤ 1000) (hG : ∀ c u, G c = some u → K.ok c) (hM : MapIs w Tryz.prog 29 K.val wval b n G) :
    Calls Tryz.prog 9 #[.map (some b)] w fun e w' => ∃ v l, e = .returned v ∧ l.Nodup ∧ (∀ c, c ∈ l ↔ ∃ u, G c = some u) ∧ RiseK l ∧ KeysAt w' v l ∧ Below w.heap.size w w' := by
  have S := Lib.hid (sortedK_any b n G (.func (.func 27) #[] #[]) w hn (fun w' v l => RiseK l ∧ KeysAt w' v l) hM (fun W B v l hB hl hmem hown => sort_keys W B v l hB hl (fun c hc => by obtain ⟨u, hu⟩ := hmem c hc; exact hG c u hu) hown))
  clear hM hG
  go_enter Tryz.func9, Tryz.ntmps9
  go_wp2_with fail
  refine S.out.mono ?_
  rintro _ w1 ⟨v, l, rfl, h1, h2, ⟨h3, h4⟩, h5⟩
  go_wp2
  go_ret
  exact ⟨v, l, rfl, h1, h2, h3, h4, h5⟩
end Go.Proofs.YtahagfdjpldblaaGreatDoor

namespace Go.Proofs.YtahagfdjpldblaaGreatDoor
open Go.RowKit Ky
set_option linter.unusedVariables false
set_option linter.unusedSimpArgs false

def sm (k : K) : K := ⟨k.a % 4, k.e % 3, k.p % 3⟩
theorem sm_ok (k : K) : (sm k).ok := by unfold K.ok sm; dsimp only; omega
theorem small_any (k : K) (hk : k.ok) (w : World) : Calls Tryz.prog 8 #[k.val] w fun e w' => e = .returned (sm k).val ∧ Below w.heap.size w w' := by
  obtain ⟨ha, he, hp⟩ := hk
  unfold K.val sm
  go_enter Tryz.func8, Tryz.ntmps8
  go_wp2
  refine bodyPost_ret (v := .agg #[.int .u32 ((k.a % 4 : Nat) : Int), .int .u16 ((k.e % 3 : Nat) : Int), .int .u16 ((k.p % 3 : Nat) : Int)]) ?_ rfl ⟨rfl, ?_⟩
  · simp [results, Tryz.results8, go_sem]
  · exact below_alloc (below_alloc (Below.refl _ w) _) _
theorem sorted_none (w : World) : Calls Tryz.prog 29 #[.map none, .func (.func 30) #[] #[]] w fun e w' => e = .returned (.slice none 0 0) ∧ Below w.heap.size w w' := by
  have HN := Lib.hid fun W => AnyF.slices_SortFunc_none { Tryz.laysSlF06_f37 with } none 0 (.func (.func 30) #[] #[]) W
  have hrg := run_range_nilMap (P := Tryz.prog) w 50 49 3 Tryz.underlying50
  have hnx := run_next_nilMap (P := Tryz.prog) w 0 0 0 #[]
  go_enter Tryz.func29, Tryz.ntmps29
  go_wp2_with fail
  refine wp_loop_rounds 1 ?_
  rw [rounds_succ]
  go_wp2_with fail
  refine (HN.out _).mono ?_
  rintro _ w1 ⟨rfl, rfl⟩
  go_wp2
  go_ret
  exact ⟨rfl, below_alloc (Below.refl _ w) _⟩
theorem pairs_none (w : World) : Calls Tryz.prog 16 #[.map none] w fun e w' => e = .returned (.slice none 0 0) ∧ Below w.heap.size w w' := by
  go_enter Tryz.func16, Tryz.ntmps16
  go_wp2_with fail
  refine (sorted_none _).mono ?_
  rintro _ w1 ⟨rfl, hb⟩
  go_wp2
  go_ret
  exact ⟨rfl, hb⟩
end Go.Proofs.YtahagfdjpldblaaGreatDoor
