/- Plain facts on zones: the hosts of all zones together are as many as the hosts; the hosts of a zone are a valid pool. No program in sight but the seat's own name. -/
import Derived.Test.YtdpmlkigmadajaaZone
namespace Go.Proofs.Ytdpmlkigmadajaa
open Go.RowKit
theorem zone_three (hs : List H3) (zs : List Int) (hz : ∀ x ∈ zs, 0 ≤ x ∧ x ≤ 2) : ∀ k, k ≤ zs.length → (zoneTo hs zs 0 k).length + (zoneTo hs zs 1 k).length + (zoneTo hs zs 2 k).length = k
  | 0, _ => rfl
  | k + 1, hk => by
    have ih := zone_three hs zs hz k (by omega)
    have hm : zs.getD k 0 ∈ zs := by
      rw [List.getD_eq_getElem?_getD, List.getElem?_eq_getElem (by omega : k < zs.length)]; exact List.getElem_mem _
    obtain ⟨h1, h2⟩ := hz _ hm
    have h3 : zs.getD k 0 = 0 ∨ zs.getD k 0 = 1 ∨ zs.getD k 0 = 2 := by omega
    simp only [zoneTo, List.length_append]
    rcases h3 with h | h | h <;> rw [h] <;> simp <;> omega
/-- A pool's hosts, each for itself. -/
def hGood (h : H3) : Prop := inB h.1 0 30 = true ∧ inB h.2.1 1 5 = true ∧ inB h.2.2 0 2 = true
theorem getD_eq {hs : List H3} {k : Nat} (h : k < hs.length) : hs.getD k (0, 0, 0) = hs[k] := by
  rw [List.getD_eq_getElem?_getD, List.getElem?_eq_getElem h]; rfl
theorem pv_iff (hs : List H3) : pv hs = true ↔ (∀ h ∈ hs, hGood h) ∧ hs.Pairwise (fun a b => a.1 < b.1) ∧ hs.length ≤ 6 := by
  constructor
  · intro h
    simp only [pv, Bool.and_eq_true, List.all_eq_true, List.mem_range, decide_eq_true_eq] at h
    obtain ⟨h1, h2⟩ := h
    have hk : ∀ k, k < hs.length → hGood (hs.getD k (0, 0, 0)) ∧ (0 < k → (hs.getD (k - 1) (0, 0, 0)).1 < (hs.getD k (0, 0, 0)).1) := fun k hk => by
      have := h1 k hk
      simp only [hOk, Bool.and_eq_true, Bool.or_eq_true, decide_eq_true_eq] at this
      obtain ⟨⟨⟨a, b⟩, c⟩, d⟩ := this
      exact ⟨⟨a, c, d⟩, fun h0 => b.resolve_left (by omega)⟩
    have hlt : ∀ d i, i + 1 + d < hs.length → (hs.getD i (0, 0, 0)).1 < (hs.getD (i + 1 + d) (0, 0, 0)).1 := by
      intro d
      induction d with
      | zero => intro i hi; have := (hk (i + 1) hi).2 (by omega); simpa using this
      | succ d ih =>
        intro i hi
        have a := ih i (by omega)
        have b := (hk (i + 1 + (d + 1)) hi).2 (by omega)
        rw [show i + 1 + (d + 1) - 1 = i + 1 + d from by omega] at b
        omega
    refine ⟨fun x hx => ?_, ?_, h2⟩
    · obtain ⟨k, hk', rfl⟩ := List.mem_iff_getElem.1 hx
      rw [← getD_eq hk']; exact (hk k hk').1
    · rw [List.pairwise_iff_getElem]
      intro i j hi hj hij
      have := hlt (j - i - 1) i (by omega)
      rw [show i + 1 + (j - i - 1) = j from by omega, getD_eq hi, getD_eq hj] at this
      exact this
  · rintro ⟨h1, h2, h3⟩
    rw [pv_of (fun j hj => ?_), decide_eq_true h3]
    have a := h1 hs[j] (List.getElem_mem hj)
    simp only [hOk, getD_eq hj, a.1, a.2.1, a.2.2, Bool.true_and, Bool.and_true, Bool.or_eq_true, decide_eq_true_eq]
    by_cases h0 : j = 0
    · exact .inl h0
    · right
      rw [getD_eq (show j - 1 < hs.length by omega)]
      exact (List.pairwise_iff_getElem.1 h2) (j - 1) j (by omega) hj (by omega)
theorem zone_sub (hs : List H3) (zs : List Int) (z : Int) : ∀ k, k ≤ hs.length → List.Sublist (zoneTo hs zs z k) (hs.take k)
  | 0, _ => by simp [zoneTo]
  | k + 1, hk => by
    have ih := zone_sub hs zs z k (by omega)
    rw [List.take_succ_eq_append_getElem (by omega : k < hs.length), zoneTo]
    refine List.Sublist.append ih ?_
    split
    · rw [getD_eq (by omega : k < hs.length)]; exact List.Sublist.refl _
    · exact List.nil_sublist _
theorem pv_sub {hs gs : List H3} (h : pv hs = true) (hs' : List.Sublist gs hs) : pv gs = true := by
  rw [pv_iff] at h ⊢
  obtain ⟨h1, h2, h3⟩ := h
  exact ⟨fun x hx => h1 x (hs'.subset hx), h2.sublist hs', Nat.le_trans hs'.length_le h3⟩
theorem pv_nil : pv [] = true := by decide
theorem pv_zone (hs : List H3) (zs : List Int) (z : Int) : pv (zoneV hs zs z) = true := by
  unfold zoneV
  split
  · rename_i h
    simp only [Bool.and_eq_true, decide_eq_true_eq] at h
    have := zone_sub hs zs z hs.length (Nat.le_refl _)
    rw [List.take_length] at this
    exact pv_sub h.1 this
  · exact pv_nil
theorem zone_sum {hs : List H3} {zs : List Int} (hp : pv hs = true) (hl : zs.length = hs.length) (hz : ∀ x ∈ zs, 0 ≤ x ∧ x ≤ 2) : (zoneV hs zs 0).length + (zoneV hs zs 1).length + (zoneV hs zs 2).length = hs.length := by
  rw [zoneV_yes hp hl, zoneV_yes hp hl, zoneV_yes hp hl]
  exact zone_three hs zs hz _ (by omega)
/-- How many hosts the first k zones have. -/
def zsum (hs : List H3) (zs : List Int) : Nat → Int
  | 0 => 0
  | k + 1 => zsum hs zs k + ((zoneV hs zs (k : Int)).length : Int)
theorem zsum_bd (hs : List H3) (zs : List Int) : ∀ k, 0 ≤ zsum hs zs k ∧ zsum hs zs k ≤ k * (hs.length : Int)
  | 0 => by simp [zsum]
  | k + 1 => by
    obtain ⟨h1, h2⟩ := zsum_bd hs zs k
    have := zoneV_len hs zs (k : Int)
    simp only [zsum]
    have e : ((k + 1 : Nat) : Int) * (hs.length : Int) = (k : Int) * (hs.length : Int) + (hs.length : Int) := by
      rw [Int.natCast_add, Int.add_mul]; simp
    rw [e]
    omega
theorem zsum_three {hs : List H3} {zs : List Int} (hp : pv hs = true) (hl : zs.length = hs.length) (hz : ∀ x ∈ zs, 0 ≤ x ∧ x ≤ 2) : zsum hs zs 3 = (hs.length : Int) := by
  have := zone_sum hp hl hz
  simp only [zsum]
  show 0 + ((zoneV hs zs 0).length : Int) + ((zoneV hs zs 1).length : Int) + ((zoneV hs zs 2).length : Int) = _
  omega
end Go.Proofs.Ytdpmlkigmadajaa
