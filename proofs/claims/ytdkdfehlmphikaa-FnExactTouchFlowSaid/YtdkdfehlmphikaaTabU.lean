/- slices.Delete at entries; TouchFlow of the program. No condition but lists of at most 2^20 entries. -/
import Derived.Test.YtdkdfehlmphikaaTabT
import Derived.Test.YtdkdfehlmphikaaTabJ
namespace Go.Proofs.Ytdkdfehlmphikaa
open Go.RowKit
set_option maxRecDepth 100000 in
set_option maxHeartbeats 4000000 in
theorem c_DelE (base g n cap k : Nat) (es : List E7) (w : World) (hn : n ≤ 1048576) (hk : k < n) (h : EntRow w base (some ⟨g, 0, none⟩) n cap es) :
    Calls Try.prog 86 #[.slice (some ⟨g, 0, none⟩) n cap, .int .i64 k, .int .i64 ((k : Int) + 1)] w fun e w' => e = .returned (.slice (some ⟨g, 0, none⟩) (n - 1) cap) ∧ EntRow w' base (some ⟨g, 0, none⟩) (n - 1) cap (es.take k ++ es.drop (k + 1)) ∧ w.grownBy w' (some g) := by
  have hl := h.len
  have hcp := row_cap h
  have hrl := row_len h
  have hmx : cap ≤ maxLen := hcp.2
  obtain ⟨i0, z, hT, hi, hz0, hz1, hz2, hz, _, hby⟩ := elemEntry
  have hnl : (eCells (es.drop (k + 1))).length = (n - (k + 1)) * 7 := by rw [List.length_map, eInts_len, List.length_drop, hl]
  have s1 := Lib.hid hnl
  have s2 := Lib.hid (ints_one (eInts (es.drop (k + 1))))
  have hdc : (eCells (es.drop (k + 1))) = (eCells es).drop ((k + 1) * 7) := by unfold eCells; rw [eInts_drop, List.map_drop]
  have s3 : Hid (∀ t, t < (eCells (es.drop (k + 1))).length → (w.drew.cell? ⟨g, 0 + k * 7 + t, none⟩).isSome = true ∧ w.drew.frozen? ⟨g, 0 + k * 7 + t, none⟩ = false) := Lib.hid (by
    intro t ht
    rw [hnl] at ht
    refine ⟨?_, h.frozenAt _⟩
    show (w.cell? ⟨g, 0 + k * 7 + t, none⟩).isSome = true
    rw [h.cellAt (0 + k * 7 + t) (by omega), List.getElem?_eq_getElem (by omega)]; rfl)
  obtain ⟨W1, hW1⟩ : ∃ W1, W1 = w.drew.setCells g (0 + k * 7) (eCells (es.drop (k + 1))) := ⟨_, rfl⟩
  have ho1 : W1.ownsRow base 69 7 (.slice (some ⟨g, 0, none⟩) n cap) n (putAt (eCells es) (k * 7) (eCells (es.drop (k + 1)))) := by
    rw [hW1, Nat.zero_add]; exact row_putAt _ _ _ _ h
  have hg1 : w.grownBy W1 (some g) := by rw [hW1]; exact gb_setCells w g _ _ _ ⟨rfl, rfl, rfl, Nat.le_refl _, fun _ _ _ => rfl⟩
  have HO1 := Lib.hid ho1
  have HG1 := Lib.hid hg1
  have HW := Lib.hid hW1
  have hcl : ∀ ty, (Builtin.clear_ #[28] ty #[.slice (some ⟨g, (n - 1) * 7, none⟩) (n - (n - 1)) (cap - (n - 1))]).run Try.prog W1 = .ok (.tuple #[]) (W1.setCells g ((n - 1) * 7) (List.replicate ((n - (n - 1)) * 7) (.int .i64 0))) := fun ty => by
    have hr1 := row_len HO1.out
    refine run_clearE W1 ty g ((n - 1) * 7) (n - (n - 1)) (cap - (n - 1)) (by omega) (fun t ht => ?_) (fun t _ => HO1.out.frozenAt _)
    rw [HO1.out.cellAt ((n - 1) * 7 + t) (by omega), List.getElem?_eq_getElem (by omega)]; rfl
  have HCL := Lib.hid hcl
  have HL := Lib.hid hl
  clear hcl ho1 hg1 hW1 hl hrl
  have hlt : (k : Int) + 1 ≤ (n : Int) := by omega
  have hs0 : (0 : Int) ≤ (k : Int) + 1 := by omega
  have hs3 : ((k : Int) + 1).toNat = k + 1 := by omega
  have hne : ((k : Int) == (k : Int) + 1) = false := beq_eq_false_iff_ne.2 (by omega)
  have hne1 : ¬ (k : Int) = (k : Int) + 1 := by omega
  have hkk : (k : Int) ≤ (k : Int) + 1 := by omega
  have hnc : (n : Int) ≤ (cap : Int) := by omega
  have hkc : k ≤ cap := by omega
  have hkc1 : k + 1 ≤ cap := by omega
  have hkc2 : (k : Int) + 1 ≤ (cap : Int) := by omega
  have hm1 : k + (n - (k + 1)) = n - 1 := by omega
  have hm2 : ((n - 1 : Nat) : Int) ≤ (n : Int) := by omega
  have hm3 : ¬ (n - 1 = cap) := by omega
  have hm4 : ¬ (cap = n - 1) := by omega
  have hm5 : n - 1 ≤ cap := by omega
  have fin : ∀ w', w' = W1.setCells g ((n - 1) * 7) [.int .i64 0, .int .i64 0, .int .i64 0, .int .i64 0, .int .i64 0, .int .i64 0, .int .i64 0] → EntRow w' base (some ⟨g, 0, none⟩) (n - 1) cap (es.take k ++ es.drop (k + 1)) ∧ w.grownBy w' (some g) := by
    rintro w' rfl
    refine ⟨?_, gb_setCells w g _ _ _ HG1.out⟩
    have := row_cut (row_putAt (List.replicate 7 (.int .i64 0)) ((n - 1) * 7) _ _ HO1.out) (n - 1) (by omega)
    rw [del_cells HL.out hk] at this
    exact this
  have HF := Lib.hid fin
  clear fin
  by_cases hcj : cap = k + 1
  · obtain rfl : n = k + 1 := by omega
    subst hcj
    have hnil : eCells (es.drop (k + 1)) = [] := List.eq_nil_of_length_eq_zero (by rw [s1.out]; omega)
    have hsrc : Hid (∀ t u, (eCells (es.drop (k + 1)))[t]? = some u → w.drew.cell? ((⟨g, 0, none⟩ : Addr).add t) = some u) := Lib.hid (by intro t u hu; rw [hnil] at hu; simp at hu)
    have s1' : Hid ((eCells (es.drop (k + 1))).length = 0 * 7) := Lib.hid (by rw [hnil]; rfl)
    clear hnil
    go_enter Try.func86, Try.ntmps86
    go_wp2_with fail
    go_region_law (refine step_append_room rfl (.tmp 22) (.tmp 25) 28 rfl 69 i0 7 hT hi hz1 g 0 k (k + 1) (by simp [Act.eval, Act.put]) ⟨g, 0, none⟩ 0 0 (eCells (es.drop (k + 1))) (by simp [Act.eval, Act.put]) s1'.out hsrc.out s2.out (by omega) s3.out ?_; rw [← HW.out])
    have hcl2 := HCL.out
    rw [show k + 1 - 1 = k by omega, show k + 1 - k = 1 by omega] at hcl2
    have hf2 := HF.out _ rfl
    clear HF HCL
    rw [show k + 1 - 1 = k by omega] at hf2
    go_wp2
    go_ret
    rw [show k + 1 - 1 = k by omega]
    exact ⟨rfl, hf2⟩
  · have hsrc : Hid (∀ t u, (eCells (es.drop (k + 1)))[t]? = some u → w.drew.cell? ((⟨g, (k + 1) * 7, none⟩ : Addr).add t) = some u) := Lib.hid (by
      intro t u hu
      have ht := (List.getElem?_eq_some_iff.1 hu).1
      rw [s1.out] at ht
      rw [hdc, List.getElem?_drop] at hu
      rw [Addr.add_lit]
      exact (h.cellAt ((k + 1) * 7 + t) (by have := row_len h; omega)).trans hu)
    have hcj' : ¬ k + 1 = cap := fun e => hcj e.symm
    go_enter Try.func86, Try.ntmps86
    go_wp2_with fail
    go_region_law (refine step_append_room rfl (.tmp 22) (.tmp 25) 28 rfl 69 i0 7 hT hi hz1 g 0 k cap (by simp [Act.eval, Act.put]) ⟨g, (k + 1) * 7, none⟩ (n - (k + 1)) (cap - (k + 1)) (eCells (es.drop (k + 1))) (by simp [Act.eval, Act.put]) s1.out hsrc.out s2.out (by omega) s3.out ?_; rw [← HW.out])
    have hcl2 := HCL.out
    have hf2 := HF.out _ rfl
    clear HF HCL
    go_wp2
    go_ret
    rw [show (n - (n - 1)) * 7 = 7 by omega]
    exact ⟨rfl, hf2⟩
end Go.Proofs.Ytdkdfehlmphikaa
