/-
  The law that the order of texts is one: its walk.
-/
import Derived.Test.YtlhnabkfacmmnaaPg7
import Derived.Test.YtlhnabkfacmmnaaPgP
import Derived.Test.YtlhnabkfacmmnaaLOrders
namespace Go.Proofs.Ytlhnabkfacmmnaa
open Go.RowKit
set_option linter.unusedVariables false
set_option linter.unusedSimpArgs false
theorem Order_ok (s t : ByteArray) (p c : Int) (w : World) (hs : s.size ≤ 2048) (ht : t.size ≤ 2048) (h0 : 0 ≤ p) (h2 : p ≤ 2) (c0 : 0 ≤ c) (c1 : c ≤ 1) : Calls Try.prog 16 #[.string s, .string t, .int .i64 p, .int .i64 c] w (GiveNN (ordS s t p c) 0 w) := by
  have h := Order_any s t p c w
  have ha := askC_ok2 hs ht h0 h2 c0 c1
  rw [okI, if_pos ha, ha] at h
  exact h
theorem Upper_okS (s : ByteArray) (p : Int) (w : World) (hs : s.size ≤ 2048) (h0 : 0 ≤ p) (h2 : p ≤ 2) : Calls Try.prog 18 #[.string s, .int .i64 p] w (GiveSN (mapS (fun x => upS_ x p) s) 0 w) := by
  have h := Upper_any s p w
  have ha := askE_ok hs h0 h2
  rw [okA, if_pos ha, ha] at h
  exact h
def th3 (s t u : ByteArray) (k : Nat) : ByteArray := if k = 0 then s else if k = 1 then t else u
def Small3 (s t u : ByteArray) (k : Nat) : Prop := ∀ j, j < k → (th3 s t u j).size ≤ 2048
theorem small3_succ {s t u : ByteArray} {k : Nat} (h : Small3 s t u k) (h2 : (th3 s t u k).size ≤ 2048) : Small3 s t u (k + 1) := fun j hj => by
  by_cases e : j = k
  · rw [e]; exact h2
  · exact h j (by omega)
theorem small3_all {s t u : ByteArray} (h : Small3 s t u 3) : s.size ≤ 2048 ∧ t.size ≤ 2048 ∧ u.size ≤ 2048 := ⟨h 0 (by omega), h 1 (by omega), h 2 (by omega)⟩
theorem cells3 (w : World) (s t u : ByteArray) (o : Obj) (T : TypeId) {k : Nat} (hk : k < 3) : ((w.alloc (.cells #[.string s, .string t, .string u] T)).alloc o).cell? ⟨w.heap.size, k, none⟩ = some (.string (th3 s t u k)) := by
  refine cell_alloc ?_ o
  rw [cell_of_row _ w.heap.size k _ T (0, 0) (heap_alloc_new w _)]
  match k, hk with
  | 0, _ => rfl
  | 1, _ => rfl
  | 2, _ => rfl
set_option maxRecDepth 100000 in
set_option maxHeartbeats 4000000 in
theorem sorts_law (s t u : ByteArray) (a b : Int) (w : World) (hs : s.size ≤ maxLen) (ht : t.size ≤ maxLen) (hu : u.size ≤ maxLen) (ha : (Lit.int .i64 a).wf = true) (hb : (Lit.int .i64 b).wf = true) : Calls Try.prog 5 #[.agg #[.string s, .string t, .string u], .agg #[.int .i64 a, .int .i64 b]] w (Give (.bool true) w) := by
  clear hs ht hu ha hb
  go_enter Try.func5, Try.ntmps5
  go_wp2_with fail
  have hcl := fun k hk => cells3 w s t u (.cells #[.int .i64 a, .int .i64 b] 27) 32 (k := k) hk
  have hE : Hid (Ext w ((w.alloc (.cells #[.string s, .string t, .string u] 32)).alloc (.cells #[.int .i64 a, .int .i64 b] 27))) := ((Ext.refl w).alloc_right _).alloc_right _
  have n0 : ((w.alloc (.cells #[.string s, .string t, .string u] 32)).alloc (.cells #[.int .i64 a, .int .i64 b] 27)).cell? ⟨w.heap.size + 1, 0, none⟩ = some (.int .i64 a) := by go_simp
  have n1 : ((w.alloc (.cells #[.string s, .string t, .string u] 32)).alloc (.cells #[.int .i64 a, .int .i64 b] 27)).cell? ⟨w.heap.size + 1, 1, none⟩ = some (.int .i64 b) := by go_simp
  generalize hw0 : (w.alloc (.cells #[.string s, .string t, .string u] 32)).alloc (.cells #[.int .i64 a, .int .i64 b] 27) = w0 at *
  clear hw0
  have hcl := hid hcl
  go_loopw [5] (fun i wr => (∃ k : Nat, k ≤ 3 ∧ i = .int .i64 k ∧ Hid (Small3 s t u k)) ∧ wr = w0) (fun i _ => 3 - (intOf i).toNat)
  case atStart => exact ⟨⟨0, by omega, rfl, fun j hj => by omega⟩, rfl⟩
  case round =>
    obtain ⟨⟨k, hk, rfl, hsm⟩, rfl⟩ := hrel
    by_cases hlt : k < 3
    · have hc := hcl.out k hlt
      by_cases hbig : 2048 < (th3 s t u k).size
      · have e1 : decide ((2048 : Int) < ((th3 s t u k).size : Int)) = true := by simp; omega
        go_wp2_with fail
        refine (known_any _).mono ?_
        rintro e w2 ⟨rfl, hx2⟩
        replace hE := hid (Ext.trans hE.out hx2)
        clear hx2
        go_wp2
        go_ret
        exact ⟨rfl, hE.out⟩
      · have e1 : decide ((2048 : Int) < ((th3 s t u k).size : Int)) = false := by simp; omega
        have hs2 := hid (small3_succ hsm.out (by omega))
        go_wp2
        go_roundw
        case rel => exact ⟨⟨k + 1, by omega, by go_num, hs2⟩, by trivial⟩
        case measure => simp [intOf]; omega
    · obtain rfl : k = 3 := by omega
      have hz := small3_all hsm.out
      have c0_0 := hcl.out 0 (by omega)
      have c0_1 := hcl.out 1 (by omega)
      have c0_2 := hcl.out 2 (by omega)
      change _ = some (Value.string s) at c0_0
      change _ = some (Value.string t) at c0_1
      change _ = some (Value.string u) at c0_2
      clear hcl hlt hk hsm
      by_cases q0 : a < 0
      · have d0 : decide (a < 0) = true := by simpa using q0
        go_wp2_with fail
        refine (known_any _).mono ?_
        rintro e w2 ⟨rfl, hx2⟩
        replace hE := hid (Ext.trans hE.out hx2)
        clear hx2
        go_wp2
        go_ret
        exact ⟨rfl, hE.out⟩
      · have d0 : decide (a < 0) = false := by simpa using q0
        by_cases q1 : 2 < a
        · have d1 : decide (2 < a) = true := by simpa using q1
          go_wp2_with fail
          refine (known_any _).mono ?_
          rintro e w2 ⟨rfl, hx2⟩
          replace hE := hid (Ext.trans hE.out hx2)
          clear hx2
          go_wp2
          go_ret
          exact ⟨rfl, hE.out⟩
        · have d1 : decide (2 < a) = false := by simpa using q1
          by_cases q2 : b < 0
          · have d2 : decide (b < 0) = true := by simpa using q2
            go_wp2_with fail
            refine (known_any _).mono ?_
            rintro e w2 ⟨rfl, hx2⟩
            replace hE := hid (Ext.trans hE.out hx2)
            clear hx2
            go_wp2
            go_ret
            exact ⟨rfl, hE.out⟩
          · have d2 : decide (b < 0) = false := by simpa using q2
            by_cases q3 : 1 < b
            · have d3 : decide (1 < b) = true := by simpa using q3
              go_wp2_with fail
              refine (known_any _).mono ?_
              rintro e w2 ⟨rfl, hx2⟩
              replace hE := hid (Ext.trans hE.out hx2)
              clear hx2
              go_wp2
              go_ret
              exact ⟨rfl, hE.out⟩
            · have d3 : decide (1 < b) = false := by simpa using q3
              have a0 : 0 ≤ a := by omega
              have a2 : a ≤ 2 := by omega
              have b0 : 0 ≤ b := by omega
              have b1 : b ≤ 1 := by omega
              clear q0 q1 q2 q3
              have s1 := hz.1
              have s2 := hz.2.1
              have s3 := hz.2.2
              clear hz
              have f1 := hid (ord_flip s t a b)
              have f2 := hid (ord_trans s t u a b)
              have f3 := hid (ord_ge s t u a b)
              have g1 := ord_rng s t a b
              have g2 := ord_rng t u a b
              have g3 := ord_rng s u a b
              have hpg : Pg a := by unfold Pg; omega
              have zu := hid (mapS_size (fun x => upS_ x a) s)
              have hup : Hid (b = 0 ∨ ordS s (mapS (fun x => upS_ x a) s) a b = 0) := by
                rcases (show b = 0 ∨ b = 1 by omega) with h | h
                · exact Or.inl h
                · refine Or.inr ?_; rw [h]; exact ord_up s hpg
              have lt_1 : w.heap.size < wr.heap.size := World.block_lt_of_cell? wr _ c0_0
              have lt_2 : w.heap.size + 1 < wr.heap.size := World.block_lt_of_cell? wr _ n0
              go_wp2_with fail
              refine (Order_ok s t a b _ s1 s2 a0 a2 b0 b1).mono ?_
              rintro e w2 ⟨rfl, hx2⟩
              replace c0_0 := hx2.cell c0_0
              replace c0_1 := hx2.cell c0_1
              replace c0_2 := hx2.cell c0_2
              replace n0 := hx2.cell n0
              replace n1 := hx2.cell n1
              replace hE := hid (Ext.trans hE.out hx2)
              clear lt_1
              have lt_1 : w.heap.size < w2.heap.size := World.block_lt_of_cell? w2 _ c0_0
              clear lt_2
              have lt_2 : w.heap.size + 1 < w2.heap.size := World.block_lt_of_cell? w2 _ n0
              clear hx2
              go_wp2_with fail
              refine (Order_ok t s a b _ s2 s1 a0 a2 b0 b1).mono ?_
              rintro e w3 ⟨rfl, hx3⟩
              replace c0_0 := hx3.cell c0_0
              replace c0_1 := hx3.cell c0_1
              replace c0_2 := hx3.cell c0_2
              replace n0 := hx3.cell n0
              replace n1 := hx3.cell n1
              replace hE := hid (Ext.trans hE.out hx3)
              clear lt_1
              have lt_1 : w.heap.size < w3.heap.size := World.block_lt_of_cell? w3 _ c0_0
              clear lt_2
              have lt_2 : w.heap.size + 1 < w3.heap.size := World.block_lt_of_cell? w3 _ n0
              clear hx3
              rw [f1.out]
              go_wp2_with fail
              refine (Order_ok t u a b _ s2 s3 a0 a2 b0 b1).mono ?_
              rintro e w4 ⟨rfl, hx4⟩
              replace c0_0 := hx4.cell c0_0
              replace c0_1 := hx4.cell c0_1
              replace c0_2 := hx4.cell c0_2
              replace n0 := hx4.cell n0
              replace n1 := hx4.cell n1
              replace hE := hid (Ext.trans hE.out hx4)
              clear lt_1
              have lt_1 : w.heap.size < w4.heap.size := World.block_lt_of_cell? w4 _ c0_0
              clear lt_2
              have lt_2 : w.heap.size + 1 < w4.heap.size := World.block_lt_of_cell? w4 _ n0
              clear hx4
              go_wp2_with fail
              refine (Order_ok s u a b _ s1 s3 a0 a2 b0 b1).mono ?_
              rintro e w5 ⟨rfl, hx5⟩
              replace c0_0 := hx5.cell c0_0
              replace c0_1 := hx5.cell c0_1
              replace c0_2 := hx5.cell c0_2
              replace n0 := hx5.cell n0
              replace n1 := hx5.cell n1
              replace hE := hid (Ext.trans hE.out hx5)
              clear lt_1
              have lt_1 : w.heap.size < w5.heap.size := World.block_lt_of_cell? w5 _ c0_0
              clear lt_2
              have lt_2 : w.heap.size + 1 < w5.heap.size := World.block_lt_of_cell? w5 _ n0
              clear hx5
              generalize ordS s t a b = A at *
              generalize ordS t u a b = B at *
              generalize ordS s u a b = C at *
              have m1 : A = -1 ∨ A = 0 ∨ A = 1 := by omega
              have m2 : B = -1 ∨ B = 0 ∨ B = 1 := by omega
              have m3 : C = -1 ∨ C = 0 ∨ C = 1 := by omega
              clear f1 g1 g2 g3
              rcases m1 with rfl | rfl | rfl <;> rcases m2 with rfl | rfl | rfl <;> rcases m3 with rfl | rfl | rfl <;> (first | (exfalso; have := f2.out (by decide) (by decide); revert this; decide) | (exfalso; have := f3.out (by decide) (by decide); revert this; decide) | skip)
              all_goals clear f2 f3
              all_goals
                go_wp2_with fail
                refine (Upper_okS s a _ s1 a0 a2).mono ?_
                rintro e w6 ⟨rfl, hx6⟩
                replace c0_0 := hx6.cell c0_0
                replace c0_1 := hx6.cell c0_1
                replace c0_2 := hx6.cell c0_2
                replace n0 := hx6.cell n0
                replace n1 := hx6.cell n1
                replace hE := hid (Ext.trans hE.out hx6)
                clear lt_1
                have lt_1 : w.heap.size < w6.heap.size := World.block_lt_of_cell? w6 _ c0_0
                clear lt_2
                have lt_2 : w.heap.size + 1 < w6.heap.size := World.block_lt_of_cell? w6 _ n0
                clear hx6
                go_wp2_with fail
                refine (Order_ok s (mapS (fun x => upS_ x a) s) a b _ s1 (by rw [zu.out]; exact s1) a0 a2 b0 b1).mono ?_
                rintro e w7 ⟨rfl, hx7⟩
                replace c0_0 := hx7.cell c0_0
                replace c0_1 := hx7.cell c0_1
                replace c0_2 := hx7.cell c0_2
                replace n0 := hx7.cell n0
                replace n1 := hx7.cell n1
                replace hE := hid (Ext.trans hE.out hx7)
                clear lt_1
                have lt_1 : w.heap.size < w7.heap.size := World.block_lt_of_cell? w7 _ c0_0
                clear lt_2
                have lt_2 : w.heap.size + 1 < w7.heap.size := World.block_lt_of_cell? w7 _ n0
                clear hx7
                rcases hup.out with hb0 | he0
                · have hb0 : (b == 0) = true := by simpa using hb0
                  go_wp2_with fail
                  refine (known_any _).mono ?_
                  rintro e w8 ⟨rfl, hx8⟩
                  replace c0_0 := hx8.cell c0_0
                  replace c0_1 := hx8.cell c0_1
                  replace c0_2 := hx8.cell c0_2
                  replace n0 := hx8.cell n0
                  replace n1 := hx8.cell n1
                  replace hE := hid (Ext.trans hE.out hx8)
                  clear lt_1
                  have lt_1 : w.heap.size < w8.heap.size := World.block_lt_of_cell? w8 _ c0_0
                  clear lt_2
                  have lt_2 : w.heap.size + 1 < w8.heap.size := World.block_lt_of_cell? w8 _ n0
                  clear hx8
                  go_wp2
                  go_ret
                  exact ⟨rfl, hE.out⟩
                · rw [he0]
                  rcases Bool.eq_false_or_eq_true (b == 0) with hb0 | hb0
                  · go_wp2_with fail
                    refine (known_any _).mono ?_
                    rintro e w8 ⟨rfl, hx8⟩
                    replace c0_0 := hx8.cell c0_0
                    replace c0_1 := hx8.cell c0_1
                    replace c0_2 := hx8.cell c0_2
                    replace n0 := hx8.cell n0
                    replace n1 := hx8.cell n1
                    replace hE := hid (Ext.trans hE.out hx8)
                    clear lt_1
                    have lt_1 : w.heap.size < w8.heap.size := World.block_lt_of_cell? w8 _ c0_0
                    clear lt_2
                    have lt_2 : w.heap.size + 1 < w8.heap.size := World.block_lt_of_cell? w8 _ n0
                    clear hx8
                    go_wp2
                    go_ret
                    exact ⟨rfl, hE.out⟩
                  · go_wp2_with fail
                    refine (known_any _).mono ?_
                    rintro e w8 ⟨rfl, hx8⟩
                    replace c0_0 := hx8.cell c0_0
                    replace c0_1 := hx8.cell c0_1
                    replace c0_2 := hx8.cell c0_2
                    replace n0 := hx8.cell n0
                    replace n1 := hx8.cell n1
                    replace hE := hid (Ext.trans hE.out hx8)
                    clear lt_1
                    have lt_1 : w.heap.size < w8.heap.size := World.block_lt_of_cell? w8 _ c0_0
                    clear lt_2
                    have lt_2 : w.heap.size + 1 < w8.heap.size := World.block_lt_of_cell? w8 _ n0
                    clear hx8
                    go_wp2
                    go_ret
                    exact ⟨rfl, hE.out⟩
end Go.Proofs.Ytlhnabkfacmmnaa
