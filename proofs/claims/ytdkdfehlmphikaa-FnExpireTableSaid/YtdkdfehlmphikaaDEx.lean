/- The draws of the law ExpireTable. No condition. -/
import Derived.Test.YtdkdfehlmphikaaMF
import Derived.Test.YtdkdfehlmphikaaMG
import Derived.Test.YtdkdfehlmphikaaMA
namespace Go.Proofs.Ytdkdfehlmphikaa
open Go.RowKit
theorem run_stT (o : Oper) (ρ : Operand → Value) (w : World) (x y : Operand) (b : Nat) (N R : Int) (q : Option Addr) (c n : Nat) (u0 u1 u2 : Value) (ho : o.op = .store 30 x y) (hx : ρ x = .pointer (some ⟨b, 0, none⟩)) (hy : ρ y = .agg #[.int .i64 N, .int .i64 R, .slice q n c]) (hb : Box w b 30 [u0, u1, u2]) :
    (execOp ρ o).run Try.prog w = .ok .skip (((w.setCell ⟨b, 0, none⟩ (.int .i64 N)).setCell ⟨b, 1, none⟩ (.int .i64 R)).setCell ⟨b, 2, none⟩ (.slice q n c)) := by
  obtain ⟨c0, c1, c2, cf⟩ := hb.three
  simp [execOp, ho, hx, hy, c0, c1, c2, cf, go_sem]
theorem Ents.grv {g c : Nat} {S : TypeId} {V : Array Value} {w w' : World} {a : Option Addr} {es : List E7} (h : Ents w a es) (hg : GrV g c S V w w') (h1 : ∀ q, a = some q → q.block ≠ g ∧ q.block ≠ c) : Ents w' a es := by
  rcases h with h | ⟨b', off, ha, hb, hc⟩
  · exact .inl h
  · exact .inr ⟨b', off, ha, Nat.lt_of_lt_of_le hb hg.size, fun i hi => (World.cell?_of_block (hg.block b' hb (h1 _ ha).1 (h1 _ ha).2)).trans (hc i hi)⟩
/-- What is said by hand of the table that is read. -/
def TXx (N R : Int) (a : Option Addr) (n cap : Nat) : List (Tmp × (Value → World → Prop)) := [(10, fun v _ => v = .agg #[.int .i64 N, .int .i64 R, .slice a n cap])]
theorem TXx.stable {N R : Int} {a : Option Addr} {n cap g c : Nat} {S : TypeId} {V : Array Value} : ∀ q ∈ TXx N R a n cap, ∀ v w w', q.2 v w → GrV g c S V w w' → q.2 v w' := by
  intro q hq v w w' h hg
  simp only [TXx, List.mem_cons, List.not_mem_nil, or_false] at hq
  subst hq
  exact h
/-- A table and a number are drawn; nothing that was there has turned. -/
def RetDEx (w : World) (e : Ending) (w' : World) : Prop :=
  ∃ (N R : Int) (a : Option Addr) (cap : Nat) (es : List E7) (x : Int), e = .returned (.tuple #[.agg #[.int .i64 N, .int .i64 R, .slice a es.length cap], .int .i64 x]) ∧ es.length ≤ 8 ∧ es.length ≤ cap ∧ (a = none → es.length = 0 ∧ cap = 0) ∧ Ents w' a es ∧ Below w.heap.size w w'
set_option maxHeartbeats 4000000 in
set_option maxRecDepth 100000 in
theorem s_DrawExpireTable (a : Option Addr) (len cap : Nat) (w : World) (hcl : len ≤ cap) (hcap : cap ≤ maxLen) (h : Code w.heap.size w a len) :
    Calls Try.prog 49 #[.slice a len cap] w (RetDEx w) := by
  have HC := Lib.hid h
  clear h
  go_enter Try.func49, Try.ntmps49
  go_wp2_with fail
  refine (c_open (D := w.heap.size) a len cap _ hcl hcap (by simp) (HC.out.below ((Below.refl _ _).alloc (Nat.le_refl _) _))).mono ?_
  rintro e w1 ⟨g, rfl, hg, hr, hb⟩
  simp only [World.size_alloc] at hg
  have HR := Lib.hid hr
  have HB := Lib.hid hb
  have hz := hb.size
  simp only [World.size_alloc] at hz
  clear hr hb
  go_wp2_with fail
  refine (s_l20Table g 0 none 0 0 [] 9 _ HR.out (by omega) (by omega) (by omega) rfl (by omega) (.inl rfl) (fun _ h => by cases h)).mono ?_
  rintro e w2 ⟨N, R, b, c2, es, rfl, hx, ho2, ⟨p2, hp2, hr2⟩, hg2⟩
  have q1 : Below w.heap.size w w1 := ((Below.refl _ _).alloc (Nat.le_refl _) _).trans (HB.out.mono (by simp))
  have B1 : Box w1 w.heap.size 30 [.int .i64 0, .int .i64 0, .slice none 0 0] := (Box.new w 30 [.int .i64 0, .int .i64 0, .slice none 0 0]).keep HB.out
  obtain ⟨w3, hw3, hb3, hz3, hx3⟩ : ∃ W, W = w2.alloc (.cells #[.int .i64 N, .int .i64 R, .slice b es.length c2] 30) ∧ Below w2.heap.size w2 W ∧ W.heap.size = w2.heap.size + 1 ∧ Box W w2.heap.size 30 [.int .i64 N, .int .i64 R, .slice b es.length c2] := head1 w2 30 _
  have hgl2 := hr2.lt
  have z2 := hg2.size
  have HW3 := Lib.hid hw3
  have B3 := Lib.hid ((B1.by hg2 (by omega)).keep hb3)
  have q3 := Lib.hid ((q1.trans (gb_below hg2 (by omega) (by omega))).trans (hb3.mono (by omega)))
  have HR3 := Lib.hid (hr2.keep (below_grown hb3))
  have HT := Lib.hid hx3
  have HI := Lib.hid ((EntRow.ents ho2).below hb3)
  have z3 : w2.heap.size + 1 ≤ w3.heap.size := by omega
  have hcp := (row_cap ho2).1
  have hnn := Lib.hid (own_none ho2)
  have hbk : Hid (∀ q, b = some q → q.block ≠ g ∧ q.block ≠ w.heap.size) := Lib.hid (fun q hq => by
    have hne : (Value.slice b es.length c2).ownBlock ≠ some w.heap.size := row_ne ho2 (B1.by hg2 (by omega)) (by decide)
    have hlt := ho2.lt q.block (by rw [hq]; rfl)
    have hg1 := HR.out.lt
    refine ⟨by omega, fun e => hne (by rw [hq, ← e]; rfl)⟩)
  clear q1 B1 hg2 hr2 hw3 hb3 hz3 hx3 ho2
  go_upto_region 3 with fail
  rw [← HW3.out]
  refine region_checked_xc (D := w.heap.size + 1) (D0 := w.heap.size) _ 0 false 15 24 g p2 w.heap.size 30 #[.int .i64 N, .int .i64 R, .slice b es.length c2] [(4, .rd)]
    [(4, .rd), (10, .any), (11, .rd), (12, .int 0 99), (13, .rd), (14, .int 0 255), (15, .int 40 295), (16, .sl [(0, 99), (40, 295), (100000, 100000), (100001, 100001)]), (17, .sl [(0, 0), (0, 0), (1, 1), (1, 1), (1, 1), (2, 2), (3, 3)]), (18, .rd), (19, .int 0 6), (20, .pt 0 3), (21, .int 0 3), (22, .pt 0 100001), (23, .int 0 100001)]
    [10, 11, 12, 13, 14, 15, 16, 17, 18, 19, 20, 21, 22, 23] [] (TXx N R b es.length c2) [10] [0, 14] rfl (by kernel_rfl) rfl TXx.stable (fun h => by cases h) ?_ HR3.out (by omega) (by omega) (by omega) (by omega) ?_ ?_
  · intro q hq
    simp only [List.mem_cons, List.not_mem_nil, or_false] at hq
    subst hq
    rfl
  · intro i hi o hin ho k a' W' hk hdef hfrm hdep hgr hW
    obtain ⟨q9, hq9, hr9⟩ := hW
    have hgl := hr9.lt
    have hcw : w.heap.size < W'.heap.size := Nat.lt_of_lt_of_le B3.out.lt hgr.size
    have hT' : Box W' w2.heap.size 30 [.int .i64 N, .int .i64 R, .slice b es.length c2] := hgr.keeps HT.out (by omega) (by omega)
    have e5 : a'.tmps.getD 5 undef = .pointer (some ⟨w2.heap.size, 0, none⟩) := (hfrm 5 (by kernel_rfl)).trans rfl
    have e2 : a'.tmps.getD 2 undef = .pointer (some ⟨w.heap.size, 0, none⟩) := (hfrm 2 (by kernel_rfl)).trans rfl
    have hD9 : ∃ p', p' ≤ p2 + (k + 1) ∧ Rd w.heap.size W' g p' := ⟨q9, by omega, hr9⟩
    simp only [List.mem_cons, List.not_mem_nil, or_false] at hi
    rcases hi with rfl | rfl
    all_goals
      injection ho with ho
      subst ho
    · refine wp_val2 rfl (run_ldTi _ _ _ _ w2.heap.size _ _ _ rfl e5 hT') ⟨GrV.rfl' _, hD9, _, rfl, trivial, (fun s hs => by cases hs), ?_⟩
      intro q hq e
      simp only [TXx, List.mem_cons, List.not_mem_nil, or_false] at hq
      subst hq
      rfl
    · have e10 := (hdep 10 (by kernel_rfl)).2.2 _ List.mem_cons_self rfl
      obtain ⟨u0, u1, u2, hc9⟩ : ∃ u0 u1 u2, Box W' w.heap.size 30 [u0, u1, u2] := by
        rcases hgr.cell with h | h
        · exact ⟨_, _, _, h.trans B3.out⟩
        · exact ⟨_, _, _, h⟩
      unfold Oper.wp
      rw [run_stT _ _ _ _ _ w.heap.size N R b c2 es.length u0 u1 u2 rfl e2 e10 hc9]
      refine ⟨⟨rfl, rfl, rfl, by simp, fun j hj h1 h2 => ?_, .inr (((hc9.set 0 _).set 1 _).set 2 _)⟩, ⟨q9, by omega, ((hr9.other (Nat.le_refl _) (by omega) _ _).other (Nat.le_refl _) (by omega) _ _).other (Nat.le_refl _) (by omega) _ _⟩, rfl, ((hc9.set 0 _).set 1 _).set 2 _⟩
      exact (heap_setCell_other _ ⟨w.heap.size, 2, none⟩ j _ h2).trans ((heap_setCell_other _ ⟨w.heap.size, 1, none⟩ j _ h2).trans (heap_setCell_other _ ⟨w.heap.size, 0, none⟩ j _ h2))
  · intro f w4 hf hgr hst hrd
    obtain ⟨x, e23, x1, x2⟩ := (hf 23 (by decide)).1
    have e23' : f 23 = .int .i64 x := e23
    have hBc : Box w4 w.heap.size 30 [.int .i64 N, .int .i64 R, .slice b es.length c2] := hst 14 _ (by decide) rfl rfl
    have q4 := Lib.hid (q3.out.trans (hgr.below (L := w.heap.size) (by omega) (by omega) (Nat.le_refl _)))
    have HI4 := Lib.hid (HI.out.grv hgr hbk.out)
    obtain ⟨y0, y1, y2, fy⟩ := hBc.three
    simp only [List.drop_succ_cons, List.drop_zero, putL, Act.put, List.setIfInBounds_toArray, List.set_cons_succ, List.set_cons_zero, e23']
    clear hf hgr hst hrd e23 e23' hBc
    go_wp2
    refine bodyPost_ret (v := .tuple #[.agg #[.int .i64 N, .int .i64 R, .slice b es.length c2], .int .i64 x]) (by simp [results, Try.results49, go_sem, y0, y1, y2]) rfl ?_
    exact ⟨N, R, b, c2, es, x, rfl, hx, hcp, hnn.out, HI4.out, q4.out⟩
end Go.Proofs.Ytdkdfehlmphikaa
