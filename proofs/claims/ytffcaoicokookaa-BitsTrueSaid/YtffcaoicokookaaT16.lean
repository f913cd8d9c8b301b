import Derived.Test.YtffcaoicokookaaT15
namespace Go.Proofs.Ytffcaoicokookaa
open Go.RowKit
attribute [local go_sem ↓] Go.wp_at_zero Go.wp_at_succ
set_option linter.unusedVariables false
theorem RdI.new_ (w : World) (l : List Int) (t : TypeId) (n : Nat) (hn : l.length = n) (hm : n ≤ maxLen) : RdI (w.alloc (.cells (ints l).toArray t)) (some ⟨w.heap.size, 0, none⟩) n n l :=
  Rd.new_ w (ints l) t n (by simpa [ints] using hn) hm
theorem RdI.new_at (w : World) (l : List Int) (t : TypeId) (n b : Nat) (hb : w.heap.size = b) (hn : l.length = n) (hm : n ≤ maxLen) : RdI (w.alloc (.cells (ints l).toArray t)) (some ⟨b, 0, none⟩) n n l := by
  subst hb; exact RdI.new_ w l t n hn hm
/-- Bytes as a string (closed to simp). -/
def strB (l : List UInt8) : ByteArray := ⟨l.toArray⟩
theorem toList_loop (bs : ByteArray) (l : List UInt8) (h : bs.data.toList = l) : bs.toList = l := by
  rw [← h]; exact ByteArray.toList_eq _
theorem strB_toList (l : List UInt8) : (strB l).toList = l := toList_loop _ _ rfl
theorem conv_RdB {w : World} {A : Option Addr} {n c : Nat} {l : List UInt8} (h : RdB w A n c l) : (convert 53 9 (.slice A n c)).run Try.prog w = .ok (.string (strB l)) w := by
  have hl := h.len
  rcases A with _ | ad
  · have h0 : n = 0 := by
      rcases Nat.eq_zero_or_pos n with h0 | h0
      · exact h0
      · obtain ⟨ad, e, _⟩ := h.2.2.2 h0
        cases e
    subst h0
    have : l = [] := List.eq_nil_of_length_eq_zero hl
    subst this
    exact run_convert_bytes_nil w 53 5 Try.underlying53 Try.underlying5 0 c 9 Try.underlying9
  · subst hl
    exact run_convert_bytes_back w 53 9 5 ad c l Try.underlying53 Try.underlying5 Try.underlying9 (fun j hj => by
      obtain ⟨ad', e, hc⟩ := h.2.2.2 (by omega)
      injection e with e
      subst e
      refine hc j _ ?_
      simp [bytesC, byt, hj])
theorem k_val1 : valB [1] [1, 2] = true := by rw [← rval_eq]; decide
theorem k_val2 : valB [2] [1, 2] = true := by rw [← rval_eq]; decide
theorem k_and1 : joinS and [1] [2] = [] := by rw [join_both (by decide) (by decide)]; decide
theorem k_and2 : joinS and [1, 2] [1, 2] = [1, 2] := by rw [join_both (by decide) (by decide)]; decide
theorem k_set : isSetS 300 [2, 3, 5] = true := by decide
theorem k_pack : packS [2, 3, 5] = [1, 1, 1, 0] := by decide
theorem k_set2 : isSetS 300 [2, 4, 6] = true := by decide
theorem k_set3 : isSetS 300 [1, 4] = true := by decide
theorem k_shift : shiftS [2, 4, 6] [1, 4] = [1, 4] := by rw [shift_eq k_set2 k_set3]; decide

set_option maxRecDepth 100000 in
set_option maxHeartbeats 2000000 in
theorem known_any (w : World) : Calls Try.prog 12 #[] w (Give (.bool true) w) := by
  go_enter Try.func12, Try.ntmps12
  go_wp2_with fail
  refine (And_yes _ _ _ [1] _ _ _ [1, 2] _ _ _ [2] _ _ _ [1, 2] _ ?ga ?gb ?gc ?gd (by omega) (by omega) (by omega) (by omega) k_val1 k_val2).mono ?_
  case ga => exact ((((RdI.new_ w [1] 3 1 rfl (by decide)).alloc _).alloc _).alloc _)
  case gb => exact (((RdI.new_at (w.alloc _) [1, 2] 3 2 _ (by simp) rfl (by decide)).alloc _).alloc _)
  case gc => exact ((RdI.new_at ((w.alloc _).alloc _) [2] 3 1 _ (by simp) rfl (by decide)).alloc _)
  case gd => exact (RdI.new_at (((w.alloc _).alloc _).alloc _) [1, 2] 3 2 _ (by simp) rfl (by decide))
  rintro e w1 ⟨C1, n1, c1, C2, n2, c2, rfl, r1, r2, hx1, -, -⟩
  rw [k_and1] at r1
  rw [k_and2] at r2
  go_wp2_with fail
  refine (Pack_yes _ _ _ [2, 3, 5] _ ?gg (by omega) k_set).mono ?_
  case gg => exact (RdI.new_at (w1.alloc _) [2, 3, 5] 3 3 _ (by simp) rfl (by decide))
  rintro e w2 ⟨P, np, cp, rfl, rp, hx2, -⟩
  rw [k_pack] at rp
  have hE2 := hid ((Ext.trans (((((Ext.refl w).alloc_right _).alloc_right _).alloc_right _).alloc_right _) hx1).trans (Ext.trans (((Ext.refl w1).alloc_right _).alloc_right _) hx2))
  have c0 : w2.cell? ⟨w1.heap.size, 0, none⟩ = some (.slice C1 n1 c1) := hx2.cell (by go_simp)
  have c1' : w2.cell? ⟨w1.heap.size, 1, none⟩ = some (.slice C2 n2 c2) := hx2.cell (by go_simp)
  have s1 := hid (((r1.alloc _).alloc _).ext hx2)
  have s2 := hid (((r2.alloc _).alloc _).ext hx2)
  clear hx1 hx2 r1 r2
  go_wp2_with fail
  refine (Shift_yes _ _ _ [2, 4, 6] _ _ _ [1, 4] _ ?gh ?gi k_set2 k_set3 (by omega) (by omega)).mono ?_
  case gh => exact ((RdI.new_at w2 [2, 4, 6] 3 3 _ (by simp) rfl (by decide)).alloc _)
  case gi => exact (RdI.new_at (w2.alloc _) [1, 4] 3 2 _ (by simp) rfl (by decide))
  rintro e w3 ⟨S, ns, cs, rfl, rs, hx3, -⟩
  rw [k_shift] at rs
  have hE3 := hid (hE2.out.trans (Ext.trans (((Ext.refl w2).alloc_right _).alloc_right _) hx3))
  have d0 : w3.cell? ⟨w1.heap.size, 0, none⟩ = some (.slice C1 n1 c1) := hx3.cell (by rw [World.cell?_alloc_some _ _ _ (by rw [World.cell?_alloc_some _ _ _ (by rw [c0]; rfl), c0]; rfl), World.cell?_alloc_some _ _ _ (by rw [c0]; rfl)]; exact c0)
  have d1 : w3.cell? ⟨w1.heap.size, 1, none⟩ = some (.slice C2 n2 c2) := hx3.cell (by rw [World.cell?_alloc_some _ _ _ (by rw [World.cell?_alloc_some _ _ _ (by rw [c1']; rfl), c1']; rfl), World.cell?_alloc_some _ _ _ (by rw [c1']; rfl)]; exact c1')
  have p3 := hid (((Rd.alloc (Rd.alloc rp _) _).ext hx3))
  have s1' := hid (((s1.out.alloc _).alloc _).ext hx3)
  have s2' := hid (((s2.out.alloc _).alloc _).ext hx3)
  clear hx3 c0 c1' rp
  go_wp2_with fail
  refine (samePair_any _ _ _ [] _ _ _ [1, 2] _ _ _ [] _ _ _ [1, 2] _ ?h1 ?h2 ?h3 ?h4).mono ?_
  case h1 => exact s1'.out.alloc _
  case h2 => exact s2'.out.alloc _
  case h3 => exact RdI.nil _
  case h4 => exact (RdI.new_at w3 [1, 2] 3 2 _ (by simp) rfl (by decide))
  rintro e w4 ⟨rfl, hx4⟩
  have hcv := conv_RdB (p3.out.ext (Ext.trans ((Ext.refl w3).alloc_right _) hx4))
  have kk : (sameS [] [] && sameS [1, 2] [1, 2]) = true := by decide
  have kt := strB_toList [1, 1, 1, 0]
  have rs4 := hid (rs.ext (Ext.trans ((Ext.refl w3).alloc_right _) hx4))
  have hE4 := hid (hE3.out.trans (Ext.trans ((Ext.refl w3).alloc_right _) hx4))
  clear hx4 rs
  go_wp2_with fail
  refine (same_any _ _ _ [1, 4] _ _ _ [1, 4] _ ?h5 ?h6).mono ?_
  case h5 => exact rs4.out.alloc _
  case h6 => exact (RdI.new_at w4 [1, 4] 3 2 _ (by simp) rfl (by decide))
  rintro e w5 ⟨rfl, hq⟩
  have hE5 := hid (hE4.out.trans (Ext.trans ((Ext.refl w4).alloc_right _) hq.ext))
  have kq : sameS [1, 4] [1, 4] = true := by decide
  clear hq
  go_wp2
  go_ret
  exact ⟨rfl, hE5.out⟩
end Go.Proofs.Ytffcaoicokookaa
