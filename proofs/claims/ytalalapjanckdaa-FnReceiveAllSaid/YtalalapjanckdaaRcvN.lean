/- The walk of the law FnReceiveAll: true for all bytes. No condition. The text is written by a program (wip/ex_rcvm.py). -/
import Derived.Test.YtalalapjanckdaaDRd
import Derived.Test.YtalalapjanckdaaRcvM
import Derived.Test.YtalalapjanckdaaRcvY
import Derived.Test.YtalalapjanckdaaRcvG
namespace Go.Proofs.Ytalalapjanckdaa
open Go.RowKit
section
variable {ops : Array Oper} {rest : List Oper} {o : Oper} {a : Act} {Q : Exit → Act → World → Prop} {T e : TypeId} {size bytes : Nat}
theorem wpl_appAg (w : World) (hw : Region.wanted o (yielded ops a.tmps) = true) (H : Elem T e size bytes) (s x : Operand)
    (ho : o.op = .call { callee := .builtin .append, args := #[s, x], argTypes := #[T, T] })
    (base : Nat) (v : Value) (n : Nat) (xs : List Value) (hs : a.eval s = v) (hown : w.ownsRow base e size v n xs)
    (ad : Option Addr) (m c : Nat) (news : List Value) (hx : a.eval x = .slice ad m c) (hnews : Vals w ad news) (hl : news.length = m * size) (h1 : ∀ u ∈ news, u.oneCell' = true)
    (had : ad = none → m = 0 ∧ c = 0) (hnm : n + m ≤ 2000000) (hbase : base ≤ w.heap.size) (N : Nat) (hN : n + m = N) (ys : List Value) (hys : xs ++ news = ys)
    (h : ∀ a' cap w', w'.ownsRow base e size (.slice a' N cap) N ys → w.grownBy w' v.ownBlock → ((Value.slice a' N cap).ownBlock = v.ownBlock ∨ (Value.slice a' N cap).ownBlock = some w.heap.size) → wpList Try.prog ops Q rest (a.put o.dst (.slice a' N cap)) w') :
    wpList Try.prog ops Q (o :: rest) a w :=
  wpList_step fun _ hK => by
    rw [if_pos hw]
    exact wp_appA w H s x ho base v n xs hs hown ad m c news hx hnews hl h1 had hnm hbase N hN ys hys fun a' cap w' h2 h3 h4 => hK _ _ (h a' cap w' h2 h3 h4)
end
set_option maxHeartbeats 8000000 in
set_option maxRecDepth 100000 in
theorem walkReceiveAll (a : Option Addr) (len cap : Nat) (z : List Int) (w : World) (w0 : IsRow .u8 w a len cap z) :
    Calls Try.prog 9 #[.slice a len cap] w fun e w' => e = .returned (.bool true) ∧ Below w.heap.size w w' := by
  obtain ⟨hcl, hcap⟩ := w0.caps
  have HC := Lib.hid w0.code
  clear w0
  have hm := hcap
  unfold maxLen at hm
  by_cases hbig : (1048576 : Int) < (len : Int)
  · go_enter Try.func9, Try.ntmps9
    go_wp2
    go_ret
    exact ⟨rfl, Below.refl _ _⟩
  go_enter Try.func9, Try.ntmps9
  go_wp2_with fail
  refine (s_DrawReceiveAll a len cap w hcl hcap HC.out).mono ?_; rintro e w1 ⟨N, R, b, c1, xs, bl, cl, ys, rfl, N1, N2, R1, R2, hx, hyl, hcl2, hcm, hI, hJ, hb⟩
  have z1 := hb.size
  unfold maxLen at hcm
  have D1 := Lib.hid hb
  have AW1 := Lib.hid (Below.refl w1.heap.size w1)
  have RI := Lib.hid hI
  have RL := Lib.hid hJ
  clear hb hI hJ
  obtain ⟨⟨v1, v2, v3, v4⟩, hv⟩ : ∃ v, rcvA N R xs ys = v := ⟨_, rfl⟩
  have hbd := rcvA_bd N R xs ys
  rw [hv] at hbd
  obtain ⟨hb3, hb4⟩ := hbd
  simp only at hb3 hb4
  have HN3 : Hid (v3.length ≤ 1048576) := Lib.hid (by omega)
  have HN4 : Hid (v4.length ≤ 1048576) := Lib.hid (by omega)
  have HNx : Hid (xs.length ≤ 1048576) := Lib.hid (by omega)
  have HNy : Hid (ys.length ≤ 1048576) := Lib.hid (by omega)
  have HV := Lib.hid hv
  clear hv
  obtain ⟨w2, hw2, hb2, hz2, hx2⟩ : ∃ W, W = w1.alloc (.cells #[.int .i64 N, .int .i64 R, .slice (some ⟨b, 0, none⟩) xs.length c1] 52) ∧ Below w1.heap.size w1 W ∧ W.heap.size = w1.heap.size + 1 ∧ Box W w1.heap.size 52 [.int .i64 N, .int .i64 R, .slice (some ⟨b, 0, none⟩) xs.length c1] := head1 w1 52 _
  have HW2 := Lib.hid hw2
  have z2 : w1.heap.size + 1 ≤ w2.heap.size := by omega
  have D2 := Lib.hid (Below.step D1.out hb2 (by omega))
  have AW2 := Lib.hid (Below.step AW1.out hb2 (by omega))
  have BP2 := Lib.hid hx2
  clear hw2 hb2 hz2 hx2
  go_wp2_with fail
  rw [← HW2.out]
  refine (c_RA_v HV.out _ _ c1 _ _ cl _ rfl HNx.out (RI.out.below AW2.out) (fun h => by cases h) rfl (RL.out.below AW2.out) HNy.out).mono ?_; rintro e w3 ⟨a3, c3, a3', c3', rfl, o3, o3', s3, g3⟩
  have z3 := g3.size
  have D3 := Lib.hid (Below.step D2.out g3 (by omega))
  have AW3 := Lib.hid (Below.step AW2.out g3 (by omega))
  have BP3 := Lib.hid (BP2.out.keep g3)
  have OG3 := Lib.hid o3
  have LG := Lib.hid (fun k hk => o3.lt k hk)
  have OH3 := Lib.hid o3'
  have LH := Lib.hid (fun k hk => o3'.lt k hk)
  have SGH := Lib.hid s3
  clear g3 o3 o3' s3
  clear AW1
  clear AW2 BP2
  obtain ⟨w4, hw4, hb4, hz4, hx4⟩ : ∃ W, W = w3.alloc (.cells #[.int .i64 v1, .int .i64 v2, .slice a3 v3.length c3] 52) ∧ Below w3.heap.size w3 W ∧ W.heap.size = w3.heap.size + 1 ∧ Box W w3.heap.size 52 [.int .i64 v1, .int .i64 v2, .slice a3 v3.length c3] := head1 w3 52 _
  have HW4 := Lib.hid hw4
  have z4 : w3.heap.size + 1 ≤ w4.heap.size := by omega
  have D4 := Lib.hid (Below.step D3.out hb4 (by omega))
  have AW4 := Lib.hid (Below.step AW3.out hb4 (by omega))
  have BP4 := Lib.hid (BP3.out.keep hb4)
  have OG4 := Lib.hid (row_below OG3.out hb4)
  have OH4 := Lib.hid (row_below OH3.out hb4)
  have BG4 := Lib.hid hx4
  clear hw4 hb4 hz4 hx4
  obtain ⟨xP0, xP1, xP2, xPf⟩ := BP3.out.three
  have xPl : w1.heap.size < w3.heap.size := by omega
  go_wp2_with fail
  rw [← HW4.out]
  refine (s_RA_v HV.out _ _ c1 _ _ cl _ rfl HNx.out (RI.out.below AW4.out) (fun h => by cases h) rfl (RL.out.below AW4.out) HNy.out).mono ?_; rintro e w5 ⟨a5, c5, a5', c5', rfl, o5, o5', g5⟩
  clear xP0 xP1 xP2 xPf xPl
  have z5 := g5.size
  have D5 := Lib.hid (Below.step D4.out g5 (by omega))
  have AW5 := Lib.hid (Below.step AW4.out g5 (by omega))
  have BP5 := Lib.hid (BP4.out.keep g5)
  have BG5 := Lib.hid (BG4.out.keep g5)
  have OG5 := Lib.hid (row_below OG4.out g5)
  have OH5 := Lib.hid (row_below OH4.out g5)
  clear g5
  clear AW3 BP3 OG3 OH3
  clear AW4 BP4 BG4 OG4 OH4
  have AY5 := Lib.hid (Below.refl w5.heap.size w5)
  have RY := Lib.hid o5
  clear o5
  have RZ := Lib.hid o5'
  clear o5'
  obtain ⟨w6, hw6, hb6, hz6, hx6⟩ : ∃ W, W = w5.alloc (.cells #[.int .i64 v1, .int .i64 v2, .slice a5 v3.length c5] 52) ∧ Below w5.heap.size w5 W ∧ W.heap.size = w5.heap.size + 1 ∧ Box W w5.heap.size 52 [.int .i64 v1, .int .i64 v2, .slice a5 v3.length c5] := head1 w5 52 _
  have HW6 := Lib.hid hw6
  have z6 : w5.heap.size + 1 ≤ w6.heap.size := by omega
  have D6 := Lib.hid (Below.step D5.out hb6 (by omega))
  have AW6 := Lib.hid (Below.step AW5.out hb6 (by omega))
  have AY6 := Lib.hid (Below.step AY5.out hb6 (by omega))
  have BP6 := Lib.hid (BP5.out.keep hb6)
  have BG6 := Lib.hid (BG5.out.keep hb6)
  have OG6 := Lib.hid (row_below OG5.out hb6)
  have OH6 := Lib.hid (row_below OH5.out hb6)
  have BY6 := Lib.hid hx6
  clear hw6 hb6 hz6 hx6
  obtain ⟨xG0, xG1, xG2, xGf⟩ := BG5.out.three
  have xGl : w3.heap.size < w5.heap.size := by omega
  go_wp2_with fail
  rw [← HW6.out]
  refine (c_sameReceiver v1 v2 _ _ v3.length _ _ v3 _ rfl HN3.out (own_ints OG6.out).1 (RY.out.below AY6.out)).mono ?_; rintro e w7 ⟨rfl, g7⟩
  clear xG0 xG1 xG2 xGf xGl
  have z7 := g7.size
  have D7 := Lib.hid (Below.step D6.out g7 (by omega))
  have AW7 := Lib.hid (Below.step AW6.out g7 (by omega))
  have AY7 := Lib.hid (Below.step AY6.out g7 (by omega))
  have BP7 := Lib.hid (BP6.out.keep g7)
  have BG7 := Lib.hid (BG6.out.keep g7)
  have BY7 := Lib.hid (BY6.out.keep g7)
  have OG7 := Lib.hid (row_below OG6.out g7)
  have OH7 := Lib.hid (row_below OH6.out g7)
  clear g7
  clear AW5 AY5 BP5 BG5 OG5 OH5
  clear AW6 AY6 BP6 BG6 BY6 OG6 OH6
  go_wp2_with fail
  refine (c_sameInts _ _ v4.length _ _ v4 _ rfl HN4.out (own_ints OH7.out).1 (RZ.out.below AY7.out)).mono ?_; rintro e w8 ⟨rfl, g8⟩
  have z8 := g8.size
  have D8 := Lib.hid (Below.step D7.out g8 (by omega))
  have AW8 := Lib.hid (Below.step AW7.out g8 (by omega))
  have AY8 := Lib.hid (Below.step AY7.out g8 (by omega))
  have BP8 := Lib.hid (BP7.out.keep g8)
  have BG8 := Lib.hid (BG7.out.keep g8)
  have BY8 := Lib.hid (BY7.out.keep g8)
  have OG8 := Lib.hid (row_below OG7.out g8)
  have OH8 := Lib.hid (row_below OH7.out g8)
  clear g8
  clear AW7 AY7 BP7 BG7 BY7 OG7 OH7
  obtain ⟨xP0, xP1, xP2, xPf⟩ := BP8.out.three
  go_wp2_with fail
  refine (c_ReceiverValid N R _ xs.length _ xs _ rfl HNx.out (RI.out.below AW8.out)).mono ?_; rintro e w9 ⟨rfl, g9⟩
  clear xP0 xP1 xP2 xPf
  have z9 := g9.size
  have D9 := Lib.hid (Below.step D8.out g9 (by omega))
  have AW9 := Lib.hid (Below.step AW8.out g9 (by omega))
  have AY9 := Lib.hid (Below.step AY8.out g9 (by omega))
  have BP9 := Lib.hid (BP8.out.keep g9)
  have BG9 := Lib.hid (BG8.out.keep g9)
  have BY9 := Lib.hid (BY8.out.keep g9)
  have OG9 := Lib.hid (row_below OG8.out g9)
  have OH9 := Lib.hid (row_below OH8.out g9)
  clear g9
  by_cases hok : rv N R xs = false ∨ 40 < ys.length
  · have e0 : rcvA N R xs ys = (0, 0, [], []) := by rw [rcvA, if_pos hok]
    rw [HV.out] at e0
    simp only [Prod.mk.injEq] at e0
    obtain ⟨rfl, rfl, rfl, rfl⟩ := e0
    cases hrv : rv N R xs
    · clear hok
      obtain ⟨xG0, xG1, xG2, xGf⟩ := BG9.out.three
      go_wp2_with fail
      refine (c_alive _).mono ?_; rintro e w10 ⟨rfl, g10⟩
      clear xG0 xG1 xG2 xGf
      have z10 := g10.size
      have D10 := Lib.hid (Below.step D9.out g10 (by omega))
      have AW10 := Lib.hid (Below.step AW9.out g10 (by omega))
      have AY10 := Lib.hid (Below.step AY9.out g10 (by omega))
      have BP10 := Lib.hid (BP9.out.keep g10)
      have BG10 := Lib.hid (BG9.out.keep g10)
      have BY10 := Lib.hid (BY9.out.keep g10)
      have OG10 := Lib.hid (row_below OG9.out g10)
      have OH10 := Lib.hid (row_below OH9.out g10)
      clear g10
      clear AW9 AY9 BP9 BG9 BY9 OG9 OH9
      go_wp2_with fail
      go_ret
      exact ⟨rfl, D10.out⟩
    · have h40 : (40 : Int) < (ys.length : Int) := by
        rcases hok with h | h
        · rw [hrv] at h; cases h
        · omega
      clear hok
      obtain ⟨xG0, xG1, xG2, xGf⟩ := BG9.out.three
      go_wp2_with fail
      refine (c_alive _).mono ?_; rintro e w10 ⟨rfl, g10⟩
      clear xG0 xG1 xG2 xGf
      have z10 := g10.size
      have D10 := Lib.hid (Below.step D9.out g10 (by omega))
      have AW10 := Lib.hid (Below.step AW9.out g10 (by omega))
      have AY10 := Lib.hid (Below.step AY9.out g10 (by omega))
      have BP10 := Lib.hid (BP9.out.keep g10)
      have BG10 := Lib.hid (BG9.out.keep g10)
      have BY10 := Lib.hid (BY9.out.keep g10)
      have OG10 := Lib.hid (row_below OG9.out g10)
      have OH10 := Lib.hid (row_below OH9.out g10)
      clear g10
      clear AW9 AY9 BP9 BG9 BY9 OG9 OH9
      go_wp2_with fail
      go_ret
      exact ⟨rfl, D10.out⟩
  · have hrv : rv N R xs = true := by cases e : rv N R xs <;> simp_all
    have h40 : ys.length ≤ 40 := by omega
    rw [hrv]
    have h40' : ¬ ((40 : Int) < (ys.length : Int)) := by omega
    clear hok
    obtain ⟨k, hk⟩ : ∃ k : Nat, (ys.length : Int) / 2 = (k : Int) := ⟨ys.length / 2, by omega⟩
    have hkn : k ≤ ys.length := by omega
    have hkc : k ≤ cl := by omega
    have hkm : cl = k → ys.length = 0 := by omega
    obtain ⟨⟨a1, a2, a3, f⟩, ha⟩ : ∃ v, rcvA N R xs (ys.take k) = v := ⟨_, rfl⟩
    obtain ⟨⟨q1, q2, q3, gg⟩, hq⟩ : ∃ v, rcvA a1 a2 a3 (ys.drop k) = v := ⟨_, rfl⟩
    have hsp := rcvA_split hrv h40 k ha hq
    rw [HV.out] at hsp
    simp only [Prod.mk.injEq] at hsp
    obtain ⟨rfl, rfl, rfl, hfg⟩ := hsp
    obtain ⟨-, hup, hnx⟩ := rcvA_law hrv h40 HV.out
    have hbd := rcvA_bd N R xs (ys.take k)
    rw [ha] at hbd
    obtain ⟨ha3, haf⟩ := hbd
    have hbd := rcvA_bd a1 a2 a3 (ys.drop k)
    rw [hq] at hbd
    obtain ⟨-, hgg⟩ := hbd
    simp only at ha3 haf hgg
    have HAa := Lib.hid ha
    have HQ := Lib.hid hq
    have HFG := Lib.hid hfg
    have HUP := Lib.hid hup
    have HNX := Lib.hid hnx
    have HKM := Lib.hid hkm
    have HLt : Hid ((ys.take k).length = k) := Lib.hid (by rw [List.length_take]; omega)
    have HLd : Hid ((ys.drop k).length = ys.length - k) := Lib.hid (by rw [List.length_drop])
    have HNa : Hid (a3.length ≤ 1048576) := Lib.hid (by omega)
    have HNk : Hid (k ≤ 1048576) := Lib.hid (by omega)
    have HNd : Hid (ys.length - k ≤ 1048576) := Lib.hid (by omega)
    clear ha hq hfg hup hnx hrv hkm
    obtain ⟨xP0, xP1, xP2, xPf⟩ := BP9.out.three
    have hgP : w1.heap.size < w9.heap.size := by omega
    have RI9 := Lib.hid (RI.out.below AW9.out)
    have RL9 := Lib.hid (RL.out.below AW9.out)
    go_upto_region 11 with fail
    go_cut [10, 11] (fun s9 s10 wx => NRel a1 a2 a3 f w9 s9 s10 wx)
    case first =>
      have hD0 : Below w9.heap.size w9 w9.drew := below_drew (Below.refl _ _)
      have hD1 : Below w9.heap.size w9 (w9.alloc (.cells #[.int .i64 0, .int .i64 0, .slice none 0 0] 52)).drew := ((Below.refl _ _).alloc (Nat.le_refl _) _).drew
      go_region_held3 (fun w' => w'.cell? ⟨w1.heap.size, 0, none⟩ = some (.int .i64 N) ∧ w'.cell? ⟨w1.heap.size, 1, none⟩ = some (.int .i64 R) ∧ w'.cell? ⟨w1.heap.size, 2, none⟩ = some (.slice (some ⟨b, 0, none⟩) xs.length c1) ∧ Below w9.heap.size w9 w') (first | (with_reducible exact ⟨keepD0 xP0, keepD0 xP1, keepD0 xP2, hD0⟩) | (with_reducible exact ⟨keepD1 xP0 _, keepD1 xP1 _, keepD1 xP2 _, hD1⟩) | (with_reducible exact ⟨kk0, kk1, kk2, kkB⟩) | (with_reducible exact ⟨keep kk0 _, keep kk1 _, keep kk2 _, kkZ⟩) | (with_reducible exact ⟨keep kk0 _, keep kk1 _, keep kk2 _, kkE⟩) | (with_reducible exact ⟨keepS kk0 (by omega), keepS kk1 (by omega), keepS kk2 (by omega), kkE⟩) | (trace "KEEP"; trace_state; fail))
        (first
          | (go_at_call 43; (with_reducible refine (c_RA_v HAa.out (some ⟨b, 0, none⟩) xs.length c1 (some ⟨bl, 0, none⟩) k cl (w9.alloc (.cells #[.int .i64 0, .int .i64 0, .slice none 0 0] 52)).drew rfl HNx.out (RI9.out.below hD1) (fun h => by cases h) HLt.out ((RL9.out.below hD1).takeW k) HNk.out).mono ?_); rintro e w' ⟨a5, c5, b5, d5, rfl, o5, p5, s5, g5⟩
             have kk0 : w'.cell? ⟨w1.heap.size, 0, none⟩ = some (.int .i64 N) := (g5.cell (p := ⟨w1.heap.size, 0, none⟩) (World.block_lt_of_cell? _ _ (keepD1 xP0 _))).trans (keepD1 xP0 _)
             have kk1 : w'.cell? ⟨w1.heap.size, 1, none⟩ = some (.int .i64 R) := (g5.cell (p := ⟨w1.heap.size, 1, none⟩) (World.block_lt_of_cell? _ _ (keepD1 xP1 _))).trans (keepD1 xP1 _)
             have kk2 : w'.cell? ⟨w1.heap.size, 2, none⟩ = some (.slice (some ⟨b, 0, none⟩) xs.length c1) := (g5.cell (p := ⟨w1.heap.size, 2, none⟩) (World.block_lt_of_cell? _ _ (keepD1 xP2 _))).trans (keepD1 xP2 _)
             have kkB : Below w9.heap.size w9 w' := hD1.trans (g5.mono (by simp))
             have kkZ : Below w9.heap.size w9 (w'.alloc (.cells #[.int .i64 0, .int .i64 0, .slice none 0 0] 52)) := kkB.alloc kkB.size _
             have kl : w1.heap.size < w'.heap.size ∧ w1.heap.size < w'.heap.size := ⟨by have := kkB.size; omega, by have := kkB.size; omega⟩
             have kkE : Below w9.heap.size w9 (((w'.setCell ⟨w9.heap.size, 0, none⟩ (.int .i64 a1)).setCell ⟨w9.heap.size, 1, none⟩ (.int .i64 a2)).setCell ⟨w9.heap.size, 2, none⟩ (.slice a5 a3.length c5)) := ((kkB.setCell (by simp) _).setCell (by simp) _).setCell (by simp) _
             have O5 := Lib.hid o5
             have P5 := Lib.hid p5
             have E5' := (Box.new2 w9 52 [.int .i64 0, .int .i64 0, .slice none 0 0] w9.heap.size rfl).drew.keep g5
             have E5 := Lib.hid E5'
             obtain ⟨m0, m1, m2, mf⟩ := E5'.three
             clear o5 p5 s5 g5)
          | (go_at_call 43; (with_reducible refine (c_RA_v HAa.out (some ⟨b, 0, none⟩) xs.length c1 (some ⟨bl, 0, none⟩) k cl w9.drew rfl HNx.out (RI9.out.below hD0) (fun h => by cases h) HLt.out ((RL9.out.below hD0).takeW k) HNk.out).mono ?_); rintro e w' ⟨a5, c5, b5, d5, rfl, o5, p5, s5, g5⟩
             have kk0 : w'.cell? ⟨w1.heap.size, 0, none⟩ = some (.int .i64 N) := (g5.cell (p := ⟨w1.heap.size, 0, none⟩) (World.block_lt_of_cell? _ _ (keepD0 xP0))).trans (keepD0 xP0)
             have kk1 : w'.cell? ⟨w1.heap.size, 1, none⟩ = some (.int .i64 R) := (g5.cell (p := ⟨w1.heap.size, 1, none⟩) (World.block_lt_of_cell? _ _ (keepD0 xP1))).trans (keepD0 xP1)
             have kk2 : w'.cell? ⟨w1.heap.size, 2, none⟩ = some (.slice (some ⟨b, 0, none⟩) xs.length c1) := (g5.cell (p := ⟨w1.heap.size, 2, none⟩) (World.block_lt_of_cell? _ _ (keepD0 xP2))).trans (keepD0 xP2)
             have kkB : Below w9.heap.size w9 w' := hD0.trans (g5.mono (Nat.le_refl _))
             have kkZ : Below w9.heap.size w9 (w'.alloc (.cells #[.int .i64 0, .int .i64 0, .slice none 0 0] 52)) := kkB.alloc kkB.size _
             have kl : w1.heap.size < w'.heap.size ∧ w1.heap.size < w'.heap.size := ⟨by have := kkB.size; omega, by have := kkB.size; omega⟩
             have kkE : Below w9.heap.size w9 (w'.alloc (.cells #[.int .i64 a1, .int .i64 a2, .slice a5 a3.length c5] 52)) := kkB.alloc kkB.size _
             have O5 := Lib.hid o5
             have P5 := Lib.hid p5
             clear o5 p5 s5 g5))
      all_goals
        go_wp2_with fail
        go_meet
      · have hf5 := own_fresh O5.out
        have hf6 := own_fresh P5.out
        exact ⟨w'.heap.size, a5, c5, b5, d5, rfl, rfl, kkB.size, Box.new2 _ _ _ _ rfl, (own_ints O5.out).1.below ((Below.refl _ _).alloc (Nat.le_refl _) _), (own_ints P5.out).1.below ((Below.refl _ _).alloc (Nat.le_refl _) _), own_none O5.out, own_none P5.out, hf5, .inr hf6, kkE⟩
      · have hf5 := own_fresh O5.out
        have hf6 := own_fresh P5.out
        have ha5 : ∀ q, a5 = some q → q.block ≠ w9.heap.size := fun q hq => by have h9 := hf5 q hq; simp at h9; omega
        have hb5 : ∀ q, b5 = some q → q.block ≠ w9.heap.size := fun q hq => by have h9 := hf6 q hq; simp at h9; omega
        exact ⟨w9.heap.size, a5, c5, b5, d5, rfl, rfl, Nat.le_refl _, ((E5.out.set 0 _).set 1 _).set 2 _, Ints.set (Ints.set (Ints.set (own_ints O5.out).1 _ _ ha5) _ _ ha5) _ _ ha5, Ints.set (Ints.set (Ints.set (own_ints P5.out).1 _ _ hb5) _ _ hb5) _ _ hb5, own_none O5.out, own_none P5.out, fun q hq => (by have h9 := hf5 q hq; simp at h9; omega), .inr (fun q hq => by have h9 := hf6 q hq; simp at h9; omega), kkE⟩
    case rest =>
      obtain ⟨gx10, a10, c10, b10, d10, rfl, rfl, hgx10, hbx10, o10, p10, n10, m10, -, -, g10⟩ := hcut
      obtain ⟨w10, rfl⟩ : ∃ wo : World, wo = wc := ⟨_, rfl⟩
      have z10 := g10.size
      have D10 := Lib.hid (Below.step D9.out g10 (by omega))
      have AW10 := Lib.hid (Below.step AW9.out g10 (by omega))
      have AY10 := Lib.hid (Below.step AY9.out g10 (by omega))
      have BP10 := Lib.hid (BP9.out.keep g10)
      have BG10 := Lib.hid (BG9.out.keep g10)
      have BY10 := Lib.hid (BY9.out.keep g10)
      have OG10 := Lib.hid (row_below OG9.out g10)
      have OH10 := Lib.hid (row_below OH9.out g10)
      have hgl10 := hbx10.lt
      clear g10
      clear xP0 xP1 xP2 xPf
      clear AW9 AY9 BP9 BG9 BY9 OG9 OH9
      have BA10 := Lib.hid hbx10
      clear hbx10
      have AN1010 := Lib.hid (Below.refl w10.heap.size w10)
      have RA3 := Lib.hid o10
      clear o10
      have RF := Lib.hid p10
      clear p10
      have NA := Lib.hid n10
      have NF := Lib.hid m10
      clear n10 m10
      rcases (show (cl = k) = True ∨ ¬ (cl = k) from (Decidable.em (cl = k)).imp (fun h => eq_true h) id) with hck | hck
      · obtain ⟨xA0, xA1, xA2, xAf⟩ := BA10.out.three
        have hgP : w1.heap.size < w10.heap.size := by omega
        have RA9 := Lib.hid RA3.out
        have hckk : cl = k := of_eq_true hck
        have RL9 : Hid (Ints w10 (some ⟨bl, 0, none⟩) (ys.drop k)) := Lib.hid (.inl (List.eq_nil_of_length_eq_zero (by have := HKM.out hckk; rw [List.length_drop]; omega)))
        clear hckk
        go_upto_region 12 with fail
        go_cut [12, 13] (fun s9 s10 wx => NRel v1 v2 v3 gg w10 s9 s10 wx)
        case first =>
          have hD0 : Below w10.heap.size w10 w10.drew := below_drew (Below.refl _ _)
          have hD1 : Below w10.heap.size w10 (w10.alloc (.cells #[.int .i64 0, .int .i64 0, .slice none 0 0] 52)).drew := ((Below.refl _ _).alloc (Nat.le_refl _) _).drew
          go_region_held3 (fun w' => w'.cell? ⟨gx10, 0, none⟩ = some (.int .i64 a1) ∧ w'.cell? ⟨gx10, 1, none⟩ = some (.int .i64 a2) ∧ w'.cell? ⟨gx10, 2, none⟩ = some (.slice a10 a3.length c10) ∧ Below w10.heap.size w10 w') (first | (with_reducible exact ⟨keepD0 xA0, keepD0 xA1, keepD0 xA2, hD0⟩) | (with_reducible exact ⟨keepD1 xA0 _, keepD1 xA1 _, keepD1 xA2 _, hD1⟩) | (with_reducible exact ⟨kk0, kk1, kk2, kkB⟩) | (with_reducible exact ⟨keep kk0 _, keep kk1 _, keep kk2 _, kkZ⟩) | (with_reducible exact ⟨keep kk0 _, keep kk1 _, keep kk2 _, kkE⟩) | (with_reducible exact ⟨keepS kk0 (by omega), keepS kk1 (by omega), keepS kk2 (by omega), kkE⟩) | (trace "KEEP"; trace_state; fail))
            (first
              | (go_at_call 43; (with_reducible refine (c_RA_v HQ.out a10 a3.length c10 (some ⟨bl, 0, none⟩) (ys.length - k) (cl - k) (w10.alloc (.cells #[.int .i64 0, .int .i64 0, .slice none 0 0] 52)).drew rfl HNa.out (RA9.out.below hD1) NA.out HLd.out (RL9.out.below hD1) HNd.out).mono ?_); rintro e w' ⟨a5, c5, b5, d5, rfl, o5, p5, s5, g5⟩
                 have kk0 : w'.cell? ⟨gx10, 0, none⟩ = some (.int .i64 a1) := (g5.cell (p := ⟨gx10, 0, none⟩) (World.block_lt_of_cell? _ _ (keepD1 xA0 _))).trans (keepD1 xA0 _)
                 have kk1 : w'.cell? ⟨gx10, 1, none⟩ = some (.int .i64 a2) := (g5.cell (p := ⟨gx10, 1, none⟩) (World.block_lt_of_cell? _ _ (keepD1 xA1 _))).trans (keepD1 xA1 _)
                 have kk2 : w'.cell? ⟨gx10, 2, none⟩ = some (.slice a10 a3.length c10) := (g5.cell (p := ⟨gx10, 2, none⟩) (World.block_lt_of_cell? _ _ (keepD1 xA2 _))).trans (keepD1 xA2 _)
                 have kkB : Below w10.heap.size w10 w' := hD1.trans (g5.mono (by simp))
                 have kkZ : Below w10.heap.size w10 (w'.alloc (.cells #[.int .i64 0, .int .i64 0, .slice none 0 0] 52)) := kkB.alloc kkB.size _
                 have kl : gx10 < w'.heap.size ∧ gx10 < w'.heap.size := ⟨by have := kkB.size; omega, by have := kkB.size; omega⟩
                 have kkE : Below w10.heap.size w10 (((w'.setCell ⟨w10.heap.size, 0, none⟩ (.int .i64 v1)).setCell ⟨w10.heap.size, 1, none⟩ (.int .i64 v2)).setCell ⟨w10.heap.size, 2, none⟩ (.slice a5 v3.length c5)) := ((kkB.setCell (by simp) _).setCell (by simp) _).setCell (by simp) _
                 have O5 := Lib.hid o5
                 have P5 := Lib.hid p5
                 have E5' := (Box.new2 w10 52 [.int .i64 0, .int .i64 0, .slice none 0 0] w10.heap.size rfl).drew.keep g5
                 have E5 := Lib.hid E5'
                 obtain ⟨m0, m1, m2, mf⟩ := E5'.three
                 clear o5 p5 s5 g5)
              | (go_at_call 43; (with_reducible refine (c_RA_v HQ.out a10 a3.length c10 (some ⟨bl, 0, none⟩) (ys.length - k) (cl - k) w10.drew rfl HNa.out (RA9.out.below hD0) NA.out HLd.out (RL9.out.below hD0) HNd.out).mono ?_); rintro e w' ⟨a5, c5, b5, d5, rfl, o5, p5, s5, g5⟩
                 have kk0 : w'.cell? ⟨gx10, 0, none⟩ = some (.int .i64 a1) := (g5.cell (p := ⟨gx10, 0, none⟩) (World.block_lt_of_cell? _ _ (keepD0 xA0))).trans (keepD0 xA0)
                 have kk1 : w'.cell? ⟨gx10, 1, none⟩ = some (.int .i64 a2) := (g5.cell (p := ⟨gx10, 1, none⟩) (World.block_lt_of_cell? _ _ (keepD0 xA1))).trans (keepD0 xA1)
                 have kk2 : w'.cell? ⟨gx10, 2, none⟩ = some (.slice a10 a3.length c10) := (g5.cell (p := ⟨gx10, 2, none⟩) (World.block_lt_of_cell? _ _ (keepD0 xA2))).trans (keepD0 xA2)
                 have kkB : Below w10.heap.size w10 w' := hD0.trans (g5.mono (Nat.le_refl _))
                 have kkZ : Below w10.heap.size w10 (w'.alloc (.cells #[.int .i64 0, .int .i64 0, .slice none 0 0] 52)) := kkB.alloc kkB.size _
                 have kl : gx10 < w'.heap.size ∧ gx10 < w'.heap.size := ⟨by have := kkB.size; omega, by have := kkB.size; omega⟩
                 have kkE : Below w10.heap.size w10 (w'.alloc (.cells #[.int .i64 v1, .int .i64 v2, .slice a5 v3.length c5] 52)) := kkB.alloc kkB.size _
                 have O5 := Lib.hid o5
                 have P5 := Lib.hid p5
                 clear o5 p5 s5 g5))
          all_goals
            go_wp2_with fail
            go_meet
          · have hf5 := own_fresh O5.out
            have hf6 := own_fresh P5.out
            exact ⟨w'.heap.size, a5, c5, b5, d5, rfl, rfl, kkB.size, Box.new2 _ _ _ _ rfl, (own_ints O5.out).1.below ((Below.refl _ _).alloc (Nat.le_refl _) _), (own_ints P5.out).1.below ((Below.refl _ _).alloc (Nat.le_refl _) _), own_none O5.out, own_none P5.out, hf5, .inr hf6, kkE⟩
          · have hf5 := own_fresh O5.out
            have hf6 := own_fresh P5.out
            have ha5 : ∀ q, a5 = some q → q.block ≠ w10.heap.size := fun q hq => by have h9 := hf5 q hq; simp at h9; omega
            have hb5 : ∀ q, b5 = some q → q.block ≠ w10.heap.size := fun q hq => by have h9 := hf6 q hq; simp at h9; omega
            exact ⟨w10.heap.size, a5, c5, b5, d5, rfl, rfl, Nat.le_refl _, ((E5.out.set 0 _).set 1 _).set 2 _, Ints.set (Ints.set (Ints.set (own_ints O5.out).1 _ _ ha5) _ _ ha5) _ _ ha5, Ints.set (Ints.set (Ints.set (own_ints P5.out).1 _ _ hb5) _ _ hb5) _ _ hb5, own_none O5.out, own_none P5.out, fun q hq => (by have h9 := hf5 q hq; simp at h9; omega), .inr (fun q hq => by have h9 := hf6 q hq; simp at h9; omega), kkE⟩
        case rest =>
          obtain ⟨gx11, a11, c11, b11, d11, rfl, rfl, hgx11, hbx11, o11, p11, n11, m11, -, -, g11⟩ := hcut
          obtain ⟨w11, rfl⟩ : ∃ wo : World, wo = wc := ⟨_, rfl⟩
          have z11 := g11.size
          have D11 := Lib.hid (Below.step D10.out g11 (by omega))
          have AW11 := Lib.hid (Below.step AW10.out g11 (by omega))
          have AY11 := Lib.hid (Below.step AY10.out g11 (by omega))
          have AN1011 := Lib.hid (Below.step AN1010.out g11 (by omega))
          have BP11 := Lib.hid (BP10.out.keep g11)
          have BG11 := Lib.hid (BG10.out.keep g11)
          have BY11 := Lib.hid (BY10.out.keep g11)
          have BA11 := Lib.hid (BA10.out.keep g11)
          have OG11 := Lib.hid (row_below OG10.out g11)
          have OH11 := Lib.hid (row_below OH10.out g11)
          have hgl11 := hbx11.lt
          clear g11
          clear xA0 xA1 xA2 xAf
          clear AW10 AY10 AN1010 BP10 BG10 BY10 BA10 OG10 OH10
          have BB11 := Lib.hid hbx11
          clear hbx11
          have AN1111 := Lib.hid (Below.refl w11.heap.size w11)
          have RB3 := Lib.hid o11
          clear o11
          have RGG := Lib.hid p11
          clear p11
          have NG := Lib.hid m11
          clear n11 m11
          obtain ⟨xP0, xP1, xP2, xPf⟩ := BP11.out.three
          have hgP : w1.heap.size < w11.heap.size := by omega
          go_wp2_with fail
          go_loopw [14] (fun i wr => ∃ k : Nat, k ≤ v4.length ∧ i = .int .i64 (k : Int) ∧ Below w11.heap.size w11 wr) (fun i _ => v4.length - (intOf i).toNat)
          case atStart => exact ⟨0, Nat.zero_le _, rfl, Below.refl _ _⟩
          case round =>
            obtain ⟨k', hk', rfl, hB⟩ := hrel
            have HB := Lib.hid hB
            have zr := hB.size
            clear xP0 xP1 xP2 xPf
            have BPr := Lib.hid (BP11.out.keep hB)
            have BGr := Lib.hid (BG11.out.keep hB)
            have BBr := Lib.hid (BB11.out.keep hB)
            have OHr := Lib.hid (row_below OH11.out hB)
            have OGr := Lib.hid (row_below OG11.out hB)
            have Dr := Lib.hid (Below.step D11.out hB (by omega))
            have RFr := Lib.hid ((RF.out.below AN1011.out).below hB)
            have RB3r := Lib.hid (RB3.out.below hB)
            have RGGr := Lib.hid (RGG.out.below hB)
            clear hB
            by_cases hlt : k' < v4.length
            · obtain ⟨b9, o9, he9, hb9, hcc⟩ := (own_ints OHr.out).1.at rfl hlt
              have c9 := hcc k' hlt
              rw [HUP.out, upFrom_get _ _ _ hlt] at c9
              subst he9
              clear hcc
              obtain ⟨xP0, xP1, xP2, xPf⟩ := BPr.out.three
              have hk1 : (0 : Int) ≤ (k' : Int) := by omega
              have hk2 : (k' : Int) < (v4.length : Int) := by omega
              have hw1 : IntKind.i64.wrap (N + (k' : Int)) = N + (k' : Int) := IntWalk.i64_in _ (by omega)
              go_wp2
              go_quiet (fail)
              go_wp2
              go_roundw
              case rel => exact ⟨k' + 1, by omega, by go_num, below_drewN HB.out _⟩
              case measure => simp [intOf]; omega
            · have hkl : k' = v4.length := by omega
              subst hkl
              obtain ⟨wy, rfl⟩ : ∃ wo : World, wo = wr := ⟨_, rfl⟩
              obtain ⟨xP0, xP1, xP2, xPf⟩ := BPr.out.three
              obtain ⟨xG0, xG1, xG2, xGf⟩ := BGr.out.three
              obtain ⟨xB0, xB1, xB2, xBf⟩ := BBr.out.three
              go_wp2_with fail
              refine (c_sameReceiver v1 v2 _ _ v3.length _ _ v3 _ rfl HN3.out RB3r.out (own_ints OGr.out).1).mono ?_; rintro e wa ⟨rfl, ga⟩
              clear xP0 xP1 xP2 xPf xG0 xG1 xG2 xGf xB0 xB1 xB2 xBf
              have za := ga.size
              have BPa := Lib.hid (BPr.out.keep ga)
              have BGa := Lib.hid (BGr.out.keep ga)
              have OHa := Lib.hid (row_below OHr.out ga)
              have RFa := Lib.hid (RFr.out.below ga)
              have RGa := Lib.hid (RGGr.out.below ga)
              have Da := Lib.hid (Below.step Dr.out ga (by omega))
              clear ga
              obtain ⟨wb, hwb, hbb, hzb⟩ : ∃ W, W = wa.alloc (.cells #[] 3) ∧ Below wa.heap.size wa W ∧ W.heap.size = wa.heap.size + 1 := ⟨_, rfl, (Below.refl _ _).alloc (Nat.le_refl _) _, by simp⟩
              have zb : wa.heap.size + 1 ≤ wb.heap.size := by omega
              have E9 : Hid (wb.ownsRow wa.heap.size 3 1 (.slice (some ⟨wa.heap.size, 0, none⟩) 0 0) 0 []) := Lib.hid (by rw [hwb]; exact row_emp _ _ _ _ rfl (Nat.le_refl _))
              have BPb := Lib.hid (BPa.out.keep hbb)
              have BGb := Lib.hid (BGa.out.keep hbb)
              have OHb := Lib.hid (row_below OHa.out hbb)
              have RFb := Lib.hid (RFa.out.below hbb).vals
              have RGb := Lib.hid (RGa.out.below hbb)
              have Db := Lib.hid (Below.step Da.out hbb (by omega))
              have HWb := Lib.hid hwb
              have LF : Hid ((f.map (Value.int .i64)).length = f.length * 1) := Lib.hid (by simp)
              have LG : Hid ((gg.map (Value.int .i64)).length = gg.length * 1) := Lib.hid (by simp)
              clear hwb hbb hzb
              go_wp2_with (at_builtin; rw [← HWb.out]; refine wpl_appAg _ rfl elemI (.tmp 102) (.tmp 103) rfl wa.heap.size (.slice (some ⟨wa.heap.size, 0, none⟩) 0 0) 0 [] rfl E9.out b10 f.length d10 (f.map (Value.int .i64)) rfl RFb.out LF.out (ints_one _) NF.out (by omega) (by omega) f.length (Nat.zero_add _) (f.map (Value.int .i64)) rfl ?_)
              intro ac9 cc9 wd hown hgrow hat
              have zd : wb.heap.size ≤ wd.heap.size := hgrow.size
              have E10 := Lib.hid hown
              have gd : Below wa.heap.size wb wd := (Below.refl _ _).grown hgrow (by omega) (fun q hq => by simp [Value.ownBlock] at hq; omega)
              have hat2 : ∀ q, (Value.slice ac9 f.length cc9).ownBlock = some q → wa.heap.size ≤ q := fun q hq => (hown.lt q hq).1
              have BPd : Hid (Box wd w1.heap.size 52 [.int .i64 N, .int .i64 R, .slice (some ⟨b, 0, none⟩) xs.length c1]) := Lib.hid (BPa.out.below (Below.trans (by rw [HWb.out]; exact (Below.refl _ _).alloc (Nat.le_refl _) _) gd) BPa.out.lt)
              have BGd := Lib.hid (BGa.out.below (Below.trans (by rw [HWb.out]; exact (Below.refl _ _).alloc (Nat.le_refl _) _) gd) BGa.out.lt)
              have RGd := Lib.hid (RGa.out.below (Below.trans (by rw [HWb.out]; exact (Below.refl _ _).alloc (Nat.le_refl _) _) gd)).vals
              have OHd := Lib.hid (row_below OHa.out (Below.trans (by rw [HWb.out]; exact (Below.refl _ _).alloc (Nat.le_refl _) _) gd))
              have Dd := Lib.hid (Db.out.trans (gd.mono (by have := Da.out.size; omega)))
              clear hown hgrow hat gd
              go_wp2_with (at_builtin; refine wpl_appAg _ rfl elemI (.tmp 104) (.tmp 105) rfl wa.heap.size (.slice ac9 f.length cc9) f.length (f.map (Value.int .i64)) rfl E10.out b11 gg.length d11 (gg.map (Value.int .i64)) rfl RGd.out LG.out (ints_one _) NG.out (by omega) (by omega) v4.length (by rw [HFG.out, List.length_append]) (v4.map (Value.int .i64)) (by rw [HFG.out, List.map_append]) ?_)
              intro ac10 cc10 we hown hgrow hat
              have ze : wd.heap.size ≤ we.heap.size := hgrow.size
              have E11 := Lib.hid hown
              have ge : Below wa.heap.size wd we := (Below.refl _ _).grown hgrow (by omega) hat2
              have BPe := Lib.hid (BPd.out.below ge (by have := BPa.out.lt; omega))
              have BGe := Lib.hid (BGd.out.below ge (by have := BGa.out.lt; omega))
              have OHe : Hid (we.ownsRow _ 3 1 _ v4.length (v4.map (Value.int .i64))) := Lib.hid (row_kept OHd.out hgrow (fun q hq h => by have h1 := hat2 q h; have h2 := (OHa.out.lt q hq).2; omega))
              have De := Lib.hid (Dd.out.trans (ge.mono (by have := Da.out.size; omega)))
              clear hown hgrow hat ge
              obtain ⟨xP0, xP1, xP2, xPf⟩ := BPe.out.three
              obtain ⟨xG0, xG1, xG2, xGf⟩ := BGe.out.three
              have hnxb : (v1 == N + (v4.length : Int)) = true := beq_iff_eq.2 HNX.out
              go_wp2_with fail
              refine (c_sameInts _ _ v4.length _ _ v4 _ rfl HN4.out (own_ints E11.out).1 (own_ints OHe.out).1).mono ?_; rintro e wf ⟨rfl, gf⟩
              have BPf := BPe.out.keep gf
              have BGf := BGe.out.keep gf
              have Df := Lib.hid (Below.step De.out gf (by have := De.out.size; omega))
              clear xP0 xP1 xP2 xPf xG0 xG1 xG2 xGf
              obtain ⟨xP0, xP1, xP2, xPf⟩ := BPf.three
              obtain ⟨xG0, xG1, xG2, xGf⟩ := BGf.three
              clear gf BPf BGf
              go_wp2_with fail
              go_ret
              exact ⟨rfl, Df.out⟩
      · obtain ⟨xA0, xA1, xA2, xAf⟩ := BA10.out.three
        have hgP : w1.heap.size < w10.heap.size := by omega
        have RA9 := Lib.hid RA3.out
        have RL9 := Lib.hid ((RL.out.below AW10.out).dropW k)
        go_upto_region 12 with fail
        go_cut [12, 13] (fun s9 s10 wx => NRel v1 v2 v3 gg w10 s9 s10 wx)
        case first =>
          have hD0 : Below w10.heap.size w10 w10.drew := below_drew (Below.refl _ _)
          have hD1 : Below w10.heap.size w10 (w10.alloc (.cells #[.int .i64 0, .int .i64 0, .slice none 0 0] 52)).drew := ((Below.refl _ _).alloc (Nat.le_refl _) _).drew
          go_region_held3 (fun w' => w'.cell? ⟨gx10, 0, none⟩ = some (.int .i64 a1) ∧ w'.cell? ⟨gx10, 1, none⟩ = some (.int .i64 a2) ∧ w'.cell? ⟨gx10, 2, none⟩ = some (.slice a10 a3.length c10) ∧ Below w10.heap.size w10 w') (first | (with_reducible exact ⟨keepD0 xA0, keepD0 xA1, keepD0 xA2, hD0⟩) | (with_reducible exact ⟨keepD1 xA0 _, keepD1 xA1 _, keepD1 xA2 _, hD1⟩) | (with_reducible exact ⟨kk0, kk1, kk2, kkB⟩) | (with_reducible exact ⟨keep kk0 _, keep kk1 _, keep kk2 _, kkZ⟩) | (with_reducible exact ⟨keep kk0 _, keep kk1 _, keep kk2 _, kkE⟩) | (with_reducible exact ⟨keepS kk0 (by omega), keepS kk1 (by omega), keepS kk2 (by omega), kkE⟩) | (trace "KEEP"; trace_state; fail))
            (first
              | (go_at_call 43; (with_reducible refine (c_RA_v HQ.out a10 a3.length c10 (some ⟨bl, k, none⟩) (ys.length - k) (cl - k) (w10.alloc (.cells #[.int .i64 0, .int .i64 0, .slice none 0 0] 52)).drew rfl HNa.out (RA9.out.below hD1) NA.out HLd.out (RL9.out.below hD1) HNd.out).mono ?_); rintro e w' ⟨a5, c5, b5, d5, rfl, o5, p5, s5, g5⟩
                 have kk0 : w'.cell? ⟨gx10, 0, none⟩ = some (.int .i64 a1) := (g5.cell (p := ⟨gx10, 0, none⟩) (World.block_lt_of_cell? _ _ (keepD1 xA0 _))).trans (keepD1 xA0 _)
                 have kk1 : w'.cell? ⟨gx10, 1, none⟩ = some (.int .i64 a2) := (g5.cell (p := ⟨gx10, 1, none⟩) (World.block_lt_of_cell? _ _ (keepD1 xA1 _))).trans (keepD1 xA1 _)
                 have kk2 : w'.cell? ⟨gx10, 2, none⟩ = some (.slice a10 a3.length c10) := (g5.cell (p := ⟨gx10, 2, none⟩) (World.block_lt_of_cell? _ _ (keepD1 xA2 _))).trans (keepD1 xA2 _)
                 have kkB : Below w10.heap.size w10 w' := hD1.trans (g5.mono (by simp))
                 have kkZ : Below w10.heap.size w10 (w'.alloc (.cells #[.int .i64 0, .int .i64 0, .slice none 0 0] 52)) := kkB.alloc kkB.size _
                 have kl : gx10 < w'.heap.size ∧ gx10 < w'.heap.size := ⟨by have := kkB.size; omega, by have := kkB.size; omega⟩
                 have kkE : Below w10.heap.size w10 (((w'.setCell ⟨w10.heap.size, 0, none⟩ (.int .i64 v1)).setCell ⟨w10.heap.size, 1, none⟩ (.int .i64 v2)).setCell ⟨w10.heap.size, 2, none⟩ (.slice a5 v3.length c5)) := ((kkB.setCell (by simp) _).setCell (by simp) _).setCell (by simp) _
                 have O5 := Lib.hid o5
                 have P5 := Lib.hid p5
                 have E5' := (Box.new2 w10 52 [.int .i64 0, .int .i64 0, .slice none 0 0] w10.heap.size rfl).drew.keep g5
                 have E5 := Lib.hid E5'
                 obtain ⟨m0, m1, m2, mf⟩ := E5'.three
                 clear o5 p5 s5 g5)
              | (go_at_call 43; (with_reducible refine (c_RA_v HQ.out a10 a3.length c10 (some ⟨bl, k, none⟩) (ys.length - k) (cl - k) w10.drew rfl HNa.out (RA9.out.below hD0) NA.out HLd.out (RL9.out.below hD0) HNd.out).mono ?_); rintro e w' ⟨a5, c5, b5, d5, rfl, o5, p5, s5, g5⟩
                 have kk0 : w'.cell? ⟨gx10, 0, none⟩ = some (.int .i64 a1) := (g5.cell (p := ⟨gx10, 0, none⟩) (World.block_lt_of_cell? _ _ (keepD0 xA0))).trans (keepD0 xA0)
                 have kk1 : w'.cell? ⟨gx10, 1, none⟩ = some (.int .i64 a2) := (g5.cell (p := ⟨gx10, 1, none⟩) (World.block_lt_of_cell? _ _ (keepD0 xA1))).trans (keepD0 xA1)
                 have kk2 : w'.cell? ⟨gx10, 2, none⟩ = some (.slice a10 a3.length c10) := (g5.cell (p := ⟨gx10, 2, none⟩) (World.block_lt_of_cell? _ _ (keepD0 xA2))).trans (keepD0 xA2)
                 have kkB : Below w10.heap.size w10 w' := hD0.trans (g5.mono (Nat.le_refl _))
                 have kkZ : Below w10.heap.size w10 (w'.alloc (.cells #[.int .i64 0, .int .i64 0, .slice none 0 0] 52)) := kkB.alloc kkB.size _
                 have kl : gx10 < w'.heap.size ∧ gx10 < w'.heap.size := ⟨by have := kkB.size; omega, by have := kkB.size; omega⟩
                 have kkE : Below w10.heap.size w10 (w'.alloc (.cells #[.int .i64 v1, .int .i64 v2, .slice a5 v3.length c5] 52)) := kkB.alloc kkB.size _
                 have O5 := Lib.hid o5
                 have P5 := Lib.hid p5
                 clear o5 p5 s5 g5))
          all_goals
            go_wp2_with fail
            go_meet
          · have hf5 := own_fresh O5.out
            have hf6 := own_fresh P5.out
            exact ⟨w'.heap.size, a5, c5, b5, d5, rfl, rfl, kkB.size, Box.new2 _ _ _ _ rfl, (own_ints O5.out).1.below ((Below.refl _ _).alloc (Nat.le_refl _) _), (own_ints P5.out).1.below ((Below.refl _ _).alloc (Nat.le_refl _) _), own_none O5.out, own_none P5.out, hf5, .inr hf6, kkE⟩
          · have hf5 := own_fresh O5.out
            have hf6 := own_fresh P5.out
            have ha5 : ∀ q, a5 = some q → q.block ≠ w10.heap.size := fun q hq => by have h9 := hf5 q hq; simp at h9; omega
            have hb5 : ∀ q, b5 = some q → q.block ≠ w10.heap.size := fun q hq => by have h9 := hf6 q hq; simp at h9; omega
            exact ⟨w10.heap.size, a5, c5, b5, d5, rfl, rfl, Nat.le_refl _, ((E5.out.set 0 _).set 1 _).set 2 _, Ints.set (Ints.set (Ints.set (own_ints O5.out).1 _ _ ha5) _ _ ha5) _ _ ha5, Ints.set (Ints.set (Ints.set (own_ints P5.out).1 _ _ hb5) _ _ hb5) _ _ hb5, own_none O5.out, own_none P5.out, fun q hq => (by have h9 := hf5 q hq; simp at h9; omega), .inr (fun q hq => by have h9 := hf6 q hq; simp at h9; omega), kkE⟩
        case rest =>
          obtain ⟨gx11, a11, c11, b11, d11, rfl, rfl, hgx11, hbx11, o11, p11, n11, m11, -, -, g11⟩ := hcut
          obtain ⟨w11, rfl⟩ : ∃ wo : World, wo = wc := ⟨_, rfl⟩
          have z11 := g11.size
          have D11 := Lib.hid (Below.step D10.out g11 (by omega))
          have AW11 := Lib.hid (Below.step AW10.out g11 (by omega))
          have AY11 := Lib.hid (Below.step AY10.out g11 (by omega))
          have AN1011 := Lib.hid (Below.step AN1010.out g11 (by omega))
          have BP11 := Lib.hid (BP10.out.keep g11)
          have BG11 := Lib.hid (BG10.out.keep g11)
          have BY11 := Lib.hid (BY10.out.keep g11)
          have BA11 := Lib.hid (BA10.out.keep g11)
          have OG11 := Lib.hid (row_below OG10.out g11)
          have OH11 := Lib.hid (row_below OH10.out g11)
          have hgl11 := hbx11.lt
          clear g11
          clear xA0 xA1 xA2 xAf
          clear AW10 AY10 AN1010 BP10 BG10 BY10 BA10 OG10 OH10
          have BB11 := Lib.hid hbx11
          clear hbx11
          have AN1111 := Lib.hid (Below.refl w11.heap.size w11)
          have RB3 := Lib.hid o11
          clear o11
          have RGG := Lib.hid p11
          clear p11
          have NG := Lib.hid m11
          clear n11 m11
          obtain ⟨xP0, xP1, xP2, xPf⟩ := BP11.out.three
          have hgP : w1.heap.size < w11.heap.size := by omega
          go_wp2_with fail
          go_loopw [14] (fun i wr => ∃ k : Nat, k ≤ v4.length ∧ i = .int .i64 (k : Int) ∧ Below w11.heap.size w11 wr) (fun i _ => v4.length - (intOf i).toNat)
          case atStart => exact ⟨0, Nat.zero_le _, rfl, Below.refl _ _⟩
          case round =>
            obtain ⟨k', hk', rfl, hB⟩ := hrel
            have HB := Lib.hid hB
            have zr := hB.size
            clear xP0 xP1 xP2 xPf
            have BPr := Lib.hid (BP11.out.keep hB)
            have BGr := Lib.hid (BG11.out.keep hB)
            have BBr := Lib.hid (BB11.out.keep hB)
            have OHr := Lib.hid (row_below OH11.out hB)
            have OGr := Lib.hid (row_below OG11.out hB)
            have Dr := Lib.hid (Below.step D11.out hB (by omega))
            have RFr := Lib.hid ((RF.out.below AN1011.out).below hB)
            have RB3r := Lib.hid (RB3.out.below hB)
            have RGGr := Lib.hid (RGG.out.below hB)
            clear hB
            by_cases hlt : k' < v4.length
            · obtain ⟨b9, o9, he9, hb9, hcc⟩ := (own_ints OHr.out).1.at rfl hlt
              have c9 := hcc k' hlt
              rw [HUP.out, upFrom_get _ _ _ hlt] at c9
              subst he9
              clear hcc
              obtain ⟨xP0, xP1, xP2, xPf⟩ := BPr.out.three
              have hk1 : (0 : Int) ≤ (k' : Int) := by omega
              have hk2 : (k' : Int) < (v4.length : Int) := by omega
              have hw1 : IntKind.i64.wrap (N + (k' : Int)) = N + (k' : Int) := IntWalk.i64_in _ (by omega)
              go_wp2
              go_quiet (fail)
              go_wp2
              go_roundw
              case rel => exact ⟨k' + 1, by omega, by go_num, below_drewN HB.out _⟩
              case measure => simp [intOf]; omega
            · have hkl : k' = v4.length := by omega
              subst hkl
              obtain ⟨wy, rfl⟩ : ∃ wo : World, wo = wr := ⟨_, rfl⟩
              obtain ⟨xP0, xP1, xP2, xPf⟩ := BPr.out.three
              obtain ⟨xG0, xG1, xG2, xGf⟩ := BGr.out.three
              obtain ⟨xB0, xB1, xB2, xBf⟩ := BBr.out.three
              go_wp2_with fail
              refine (c_sameReceiver v1 v2 _ _ v3.length _ _ v3 _ rfl HN3.out RB3r.out (own_ints OGr.out).1).mono ?_; rintro e wa ⟨rfl, ga⟩
              clear xP0 xP1 xP2 xPf xG0 xG1 xG2 xGf xB0 xB1 xB2 xBf
              have za := ga.size
              have BPa := Lib.hid (BPr.out.keep ga)
              have BGa := Lib.hid (BGr.out.keep ga)
              have OHa := Lib.hid (row_below OHr.out ga)
              have RFa := Lib.hid (RFr.out.below ga)
              have RGa := Lib.hid (RGGr.out.below ga)
              have Da := Lib.hid (Below.step Dr.out ga (by omega))
              clear ga
              obtain ⟨wb, hwb, hbb, hzb⟩ : ∃ W, W = wa.alloc (.cells #[] 3) ∧ Below wa.heap.size wa W ∧ W.heap.size = wa.heap.size + 1 := ⟨_, rfl, (Below.refl _ _).alloc (Nat.le_refl _) _, by simp⟩
              have zb : wa.heap.size + 1 ≤ wb.heap.size := by omega
              have E9 : Hid (wb.ownsRow wa.heap.size 3 1 (.slice (some ⟨wa.heap.size, 0, none⟩) 0 0) 0 []) := Lib.hid (by rw [hwb]; exact row_emp _ _ _ _ rfl (Nat.le_refl _))
              have BPb := Lib.hid (BPa.out.keep hbb)
              have BGb := Lib.hid (BGa.out.keep hbb)
              have OHb := Lib.hid (row_below OHa.out hbb)
              have RFb := Lib.hid (RFa.out.below hbb).vals
              have RGb := Lib.hid (RGa.out.below hbb)
              have Db := Lib.hid (Below.step Da.out hbb (by omega))
              have HWb := Lib.hid hwb
              have LF : Hid ((f.map (Value.int .i64)).length = f.length * 1) := Lib.hid (by simp)
              have LG : Hid ((gg.map (Value.int .i64)).length = gg.length * 1) := Lib.hid (by simp)
              clear hwb hbb hzb
              go_wp2_with (at_builtin; rw [← HWb.out]; refine wpl_appAg _ rfl elemI (.tmp 102) (.tmp 103) rfl wa.heap.size (.slice (some ⟨wa.heap.size, 0, none⟩) 0 0) 0 [] rfl E9.out b10 f.length d10 (f.map (Value.int .i64)) rfl RFb.out LF.out (ints_one _) NF.out (by omega) (by omega) f.length (Nat.zero_add _) (f.map (Value.int .i64)) rfl ?_)
              intro ac9 cc9 wd hown hgrow hat
              have zd : wb.heap.size ≤ wd.heap.size := hgrow.size
              have E10 := Lib.hid hown
              have gd : Below wa.heap.size wb wd := (Below.refl _ _).grown hgrow (by omega) (fun q hq => by simp [Value.ownBlock] at hq; omega)
              have hat2 : ∀ q, (Value.slice ac9 f.length cc9).ownBlock = some q → wa.heap.size ≤ q := fun q hq => (hown.lt q hq).1
              have BPd : Hid (Box wd w1.heap.size 52 [.int .i64 N, .int .i64 R, .slice (some ⟨b, 0, none⟩) xs.length c1]) := Lib.hid (BPa.out.below (Below.trans (by rw [HWb.out]; exact (Below.refl _ _).alloc (Nat.le_refl _) _) gd) BPa.out.lt)
              have BGd := Lib.hid (BGa.out.below (Below.trans (by rw [HWb.out]; exact (Below.refl _ _).alloc (Nat.le_refl _) _) gd) BGa.out.lt)
              have RGd := Lib.hid (RGa.out.below (Below.trans (by rw [HWb.out]; exact (Below.refl _ _).alloc (Nat.le_refl _) _) gd)).vals
              have OHd := Lib.hid (row_below OHa.out (Below.trans (by rw [HWb.out]; exact (Below.refl _ _).alloc (Nat.le_refl _) _) gd))
              have Dd := Lib.hid (Db.out.trans (gd.mono (by have := Da.out.size; omega)))
              clear hown hgrow hat gd
              go_wp2_with (at_builtin; refine wpl_appAg _ rfl elemI (.tmp 104) (.tmp 105) rfl wa.heap.size (.slice ac9 f.length cc9) f.length (f.map (Value.int .i64)) rfl E10.out b11 gg.length d11 (gg.map (Value.int .i64)) rfl RGd.out LG.out (ints_one _) NG.out (by omega) (by omega) v4.length (by rw [HFG.out, List.length_append]) (v4.map (Value.int .i64)) (by rw [HFG.out, List.map_append]) ?_)
              intro ac10 cc10 we hown hgrow hat
              have ze : wd.heap.size ≤ we.heap.size := hgrow.size
              have E11 := Lib.hid hown
              have ge : Below wa.heap.size wd we := (Below.refl _ _).grown hgrow (by omega) hat2
              have BPe := Lib.hid (BPd.out.below ge (by have := BPa.out.lt; omega))
              have BGe := Lib.hid (BGd.out.below ge (by have := BGa.out.lt; omega))
              have OHe : Hid (we.ownsRow _ 3 1 _ v4.length (v4.map (Value.int .i64))) := Lib.hid (row_kept OHd.out hgrow (fun q hq h => by have h1 := hat2 q h; have h2 := (OHa.out.lt q hq).2; omega))
              have De := Lib.hid (Dd.out.trans (ge.mono (by have := Da.out.size; omega)))
              clear hown hgrow hat ge
              obtain ⟨xP0, xP1, xP2, xPf⟩ := BPe.out.three
              obtain ⟨xG0, xG1, xG2, xGf⟩ := BGe.out.three
              have hnxb : (v1 == N + (v4.length : Int)) = true := beq_iff_eq.2 HNX.out
              go_wp2_with fail
              refine (c_sameInts _ _ v4.length _ _ v4 _ rfl HN4.out (own_ints E11.out).1 (own_ints OHe.out).1).mono ?_; rintro e wf ⟨rfl, gf⟩
              have BPf := BPe.out.keep gf
              have BGf := BGe.out.keep gf
              have Df := Lib.hid (Below.step De.out gf (by have := De.out.size; omega))
              clear xP0 xP1 xP2 xPf xG0 xG1 xG2 xGf
              obtain ⟨xP0, xP1, xP2, xPf⟩ := BPf.three
              obtain ⟨xG0, xG1, xG2, xGf⟩ := BGf.three
              clear gf BPf BGf
              go_wp2_with fail
              go_ret
              exact ⟨rfl, Df.out⟩
end Go.Proofs.Ytalalapjanckdaa
