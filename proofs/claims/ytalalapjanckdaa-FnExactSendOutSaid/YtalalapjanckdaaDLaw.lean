/- What every law over drawn bytes needs: the reader opened over the bytes that came in; 'alive'. -/
import Derived.Test.YtalalapjanckdaaTyU
namespace Go.Proofs.Ytalalapjanckdaa
open Go.RowKit
variable {D : Nat}
theorem gb_below {B g : Nat} {w w' : World} (h : w.grownBy w' (some g)) (hB : B ≤ w.heap.size) (hg : B ≤ g) : Below B w w' :=
  ⟨h.os, h.tape, h.output, h.size, fun k hk => h.block k (by omega) (fun e => by simp at e; omega)⟩
/-- The bytes that came in, as the draws want them; they last while the world grows. -/
def Code (D : Nat) (w : World) (a : Option Addr) (len : Nat) : Prop :=
  len = 0 ∨ ∃ b off, a = some ⟨b, off, none⟩ ∧ b < D ∧ ∀ i, i < len → ∃ x : Int, w.cell? ⟨b, off + i, none⟩ = some (.int .u8 x) ∧ 0 ≤ x ∧ x ≤ 255
theorem IsRow.code {w : World} {a : Option Addr} {len cap : Nat} {zs : List Int} (h : IsRow .u8 w a len cap zs) : Code w.heap.size w a len := h.bytes
theorem IsRow.caps {k : IntKind} {w : World} {a : Option Addr} {len cap : Nat} {zs : List Int} (h : IsRow k w a len cap zs) : len ≤ cap ∧ cap ≤ maxLen := by
  rcases h with ⟨_, rfl, rfl, _⟩ | ⟨_, _, h1, h2, _⟩
  · exact ⟨Nat.le_refl _, Nat.zero_le _⟩
  · exact ⟨h1, h2⟩
theorem Code.below {w w' : World} {a : Option Addr} {len : Nat} (h : Code D w a len) (hb : Below D w w') : Code D w' a len :=
  h.imp id fun ⟨b, off, ha, hlt, hc⟩ => ⟨b, off, ha, hlt, fun i hi => by
    obtain ⟨x, hx, hx2⟩ := hc i hi
    exact ⟨x, (hb.cell (p := ⟨b, off + i, none⟩) hlt).trans hx, hx2⟩⟩
theorem c_alive (w : World) : Calls Try.prog 15 #[] w fun e w' => e = .returned (.bool true) ∧ Below w.heap.size w w' := by
  have hf : Calls Try.prog 50 #[.agg #[.int .i64 0, .int .i64 0, .int .i64 0, .int .i64 0, .int .i64 2]] w fun e w' => e = .returned (.bool true) ∧ Below w.heap.size w w' := by
    have h1 : inB 0 0 255 = true := by decide
    have h2 : inB 0 0 999 = true := by decide
    have h3 : inB 2 1 2 = true := by decide
    go_enter Try.func50, Try.ntmps50
    go_wp2_with (go_at_call 63; refine (c_in _ _ _ _).mono ?_; rintro e w' ⟨rfl, rfl⟩)
    go_ret
    exact ⟨rfl, by go_grown⟩
  have HF := Lib.hid hf
  clear hf
  go_enter Try.func15, Try.ntmps15
  go_wp2_with fail
  refine HF.out.mono ?_
  rintro e w' ⟨rfl, hb⟩
  go_wp2_with fail
  go_ret
  exact ⟨rfl, hb⟩
end Go.Proofs.Ytalalapjanckdaa
