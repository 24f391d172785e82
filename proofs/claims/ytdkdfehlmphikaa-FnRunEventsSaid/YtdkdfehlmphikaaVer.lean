/- Contracts of the tables' functions, their answers named. No condition but lists of at most 2^20 entries. -/
import Derived.Test.YtdkdfehlmphikaaME
import Derived.Test.YtdkdfehlmphikaaMC
namespace Go.Proofs.Ytdkdfehlmphikaa
open Go.RowKit
section
variable {N R : Int} {es : List E7} {f : F5} {now ho d1 d2 : Int} {d3 : List E7} {ok : Bool}
theorem c_Drop_r (hv : dropT (N, R, es) f = (d1, d2, d3)) (a : Option Addr) (n cap : Nat) (w : World) (hxs : es.length = n) (hn : n ≤ 1048576) (h : Ents w a es) (ha : a = none → n = 0 ∧ cap = 0) :
    Calls Try.prog 43 #[.agg #[.int .i64 N, .int .i64 R, .slice a n cap], fvv f] w (RetTab w d1 d2 d3) := by
  have := c_DropFlow N R f a n cap es w hxs hn h ha
  rw [hv] at this
  exact this
theorem s_Drop_r (hv : dropT (N, R, es) f = (d1, d2, d3)) (a : Option Addr) (n cap : Nat) (w : World) (hxs : es.length = n) (hn : n ≤ 1048576) (hcap : n ≤ cap) (h : Ents w a es) (ha : a = none → n = 0 ∧ cap = 0) :
    Calls Try.prog 48 #[.agg #[.int .i64 N, .int .i64 R, .slice a n cap], fvv f] w (RetTab w d1 d2 d3) := by
  have := s_DropFlow N R f a n cap es w hxs hn hcap h ha
  rw [hv] at this
  exact this
theorem c_Exp_r (hv : expT (N, R, es) now = (d1, d2, d3)) (a : Option Addr) (n cap : Nat) (w : World) (hxs : es.length = n) (hn : n ≤ 1048576) (h : Ents w a es) (ha : a = none → n = 0 ∧ cap = 0) :
    Calls Try.prog 50 #[.agg #[.int .i64 N, .int .i64 R, .slice a n cap], .int .i64 now] w (RetTab w d1 d2 d3) := by
  have := c_ExpireTable N R now a n cap es w hxs hn h ha
  rw [hv] at this
  exact this
theorem s_Exp_r (hv : expT (N, R, es) now = (d1, d2, d3)) (a : Option Addr) (n cap : Nat) (w : World) (hxs : es.length = n) (hn : n ≤ 1048576) (h : Ents w a es) (ha : a = none → n = 0 ∧ cap = 0) :
    Calls Try.prog 51 #[.agg #[.int .i64 N, .int .i64 R, .slice a n cap], .int .i64 now] w (RetTab w d1 d2 d3) := by
  have := s_ExpireTable N R now a n cap es w hxs hn h ha
  rw [hv] at this
  exact this
theorem c_Tou_r (hv : touchT (N, R, es) f ho now = ((d1, d2, d3), ok)) (a : Option Addr) (n cap : Nat) (w : World) (hxs : es.length = n) (hn : n ≤ 1048576) (h : Ents w a es) (ha : a = none → n = 0 ∧ cap = 0) :
    Calls Try.prog 45 #[.agg #[.int .i64 N, .int .i64 R, .slice a n cap], fvv f, .int .i64 ho, .int .i64 now] w fun e w' => ∃ (a : Option Addr) (cap : Nat), e = .returned (.tuple #[.agg #[.int .i64 d1, .int .i64 d2, .slice a d3.length cap], .bool ok]) ∧ w'.ownsRow w.heap.size 69 7 (.slice a d3.length cap) d3.length (eCells d3) ∧ w.grownBy w' none := by
  have := c_TouchFlow N R f ho now a n cap es w hxs hn h ha
  rw [hv] at this
  exact this
theorem s_Tou_r (hv : touchT (N, R, es) f ho now = ((d1, d2, d3), ok)) (a : Option Addr) (n cap : Nat) (w : World) (hxs : es.length = n) (hn : n ≤ 1048576) (hcap : n ≤ cap) (h : Ents w a es) (ha : a = none → n = 0 ∧ cap = 0) :
    Calls Try.prog 46 #[.agg #[.int .i64 N, .int .i64 R, .slice a n cap], fvv f, .int .i64 ho, .int .i64 now] w fun e w' => ∃ (a : Option Addr) (cap : Nat), e = .returned (.tuple #[.agg #[.int .i64 d1, .int .i64 d2, .slice a d3.length cap], .bool ok]) ∧ w'.ownsRow w.heap.size 69 7 (.slice a d3.length cap) d3.length (eCells d3) ∧ w.grownBy w' none := by
  have := s_TouchFlow N R f ho now a n cap es w hxs hn hcap h ha
  rw [hv] at this
  exact this
theorem drop_le (hv : dropT (N, R, es) f = (d1, d2, d3)) : d3.length ≤ es.length := by
  unfold dropT at hv
  split at hv
  · simp only [Prod.mk.injEq] at hv
    obtain ⟨_, _, rfl⟩ := hv
    exact List.length_filter_le _ _
  · simp only [Prod.mk.injEq] at hv
    obtain ⟨_, _, rfl⟩ := hv
    exact Nat.zero_le _
theorem exp_le (hv : expT (N, R, es) now = (d1, d2, d3)) : d3.length ≤ es.length := by
  unfold expT at hv
  split at hv
  · simp only [Prod.mk.injEq] at hv
    obtain ⟨_, _, rfl⟩ := hv
    exact List.length_filter_le _ _
  · simp only [Prod.mk.injEq] at hv
    obtain ⟨_, _, rfl⟩ := hv
    exact Nat.zero_le _
theorem tou_le (hv : touchT (N, R, es) f ho now = ((d1, d2, d3), ok)) : d3.length ≤ es.length + 1 := by
  unfold touchT at hv
  split at hv
  · simp only [Prod.mk.injEq] at hv
    obtain ⟨⟨_, _, rfl⟩, _⟩ := hv
    have : (restT N es f).length ≤ es.length := by
      unfold restT
      split
      · exact List.length_filter_le _ _
      · split
        · rw [List.length_drop]; omega
        · exact Nat.le_refl _
    rw [List.length_append]
    simp only [List.length_cons, List.length_nil]
    omega
  · simp only [Prod.mk.injEq] at hv
    obtain ⟨⟨_, _, rfl⟩, _⟩ := hv
    exact Nat.zero_le _
end
end Go.Proofs.Ytdkdfehlmphikaa
