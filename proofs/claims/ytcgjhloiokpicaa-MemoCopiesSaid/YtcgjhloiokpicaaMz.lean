/-
  The bytes of a memo file, plainly; four, filled of the reference.
-/
import Derived.Test.YtcgjhloiokpicaaMy
import Derived.Lib.AppendStr
namespace Go.Proofs.Ytcgjhloiokpicaa
open Go.RowKit Go.Shelf
set_option linter.unusedVariables false
set_option linter.unusedSimpArgs false
def bys (l : List Int) : List Value := l.map (Value.int .u8)
theorem bys_len (l : List Int) : (bys l).length = l.length := by simp [bys]
theorem bys_append (a b : List Int) : bys (a ++ b) = bys a ++ bys b := by simp [bys]
theorem bys_one (l : List Int) : ∀ u ∈ bys l, u.oneCell' = true := by
  intro u hu
  obtain ⟨_, _, rfl⟩ := List.mem_map.1 hu
  rfl
def txt (s : ByteArray) : List Int := s.data.toList.map fun b => (b.toNat : Int)
theorem strCells_txt (s : ByteArray) : Lib.strCells s = bys (txt s) := by simp [Lib.strCells, bys, txt]
theorem txt_len (s : ByteArray) : (txt s).length = s.size := by rw [txt, List.length_map, Array.length_toList]; rfl
/-- A number's four bytes, the lowest one first. -/
def le4 (n : Int) : List Int := [n % 256, n / 256 % 256, n / 65536 % 256, n / 16777216 % 256]
/-- Filled up by noughts. -/
def pad (l : List Int) (n : Nat) : List Int := l ++ List.replicate (n - l.length) 0
theorem pad_len (l : List Int) (n : Nat) (h : l.length ≤ n) : (pad l n).length = n := by simp [pad]; omega
theorem pad_of_le (l : List Int) (n : Nat) (h : n ≤ l.length) : pad l n = l := by unfold pad; rw [Nat.sub_eq_zero_of_le h]; simp
theorem pad_step (l : List Int) (n : Nat) (h : l.length < n) : pad (l ++ [0]) n = pad l n := by
  unfold pad
  rw [List.length_append, List.length_singleton, List.append_assoc, ← List.replicate_one, List.replicate_append_replicate]
  congr 2
  omega
/-- What an entry begins with, and its text. -/
def preE (x : En) : List Int := le4 (if x.kind = 0 then 0 else 1) ++ (le4 x.blocks ++ (if x.kind = 0 then [] else le4 x.s.size ++ txt x.s))
def entB (size : Int) (x : En) : List Int := pad (preE x) (x.blocks * size).toNat
def hdB (size : Int) (l : List En) : List Int := pad (le4 (endI l) ++ [size % 256, size / 256 % 256]) size.toNat
def bodyB (size : Int) : List En → List Int
  | [] => []
  | x :: l => entB size x ++ bodyB size l
def fileB (size : Int) (l : List En) : List Int := hdB size l ++ bodyB size l
theorem bodyB_append (size : Int) : ∀ a b : List En, bodyB size (a ++ b) = bodyB size a ++ bodyB size b
  | [], b => rfl
  | x :: a, b => by rw [List.cons_append, bodyB, bodyB, bodyB_append size a b, List.append_assoc]
theorem bodyB_succ (size : Int) {l : List En} {k : Nat} (h : k < l.length) : bodyB size (l.take (k + 1)) = bodyB size (l.take k) ++ entB size (eth l k) := by
  rw [List.take_succ_eq_append_getElem h, bodyB_append, eth_get h]
  simp [bodyB]
theorem infoU8 : (Try.prog.info? 5).map (fun i => (i.zero, i.size, i.bytes)) = some (some (.int .u8 0), 1, 1) := by kernel_rfl
section
set_option maxRecDepth 100000
set_option maxHeartbeats 4000000
theorem four_any (n : Int) (w : World) (h0 : 0 ≤ n) (h1 : n ≤ 2147483647) : Calls Try.prog 54 #[.int .i64 n] w fun e w' => e = .returned (.slice (some ⟨w.heap.size, 0, none⟩) 4 4) ∧ w' = w.alloc (.cells (bys (le4 n)).toArray 5) := by
  go_enter Try.func54, Try.ntmps54
  go_wp2
  go_ret
  have e : n / 16777216 % 256 = n / 16777216 := by omega
  exact ⟨rfl, by unfold bys le4; rw [e]; rfl⟩
theorem filled_any (u : World) (v : Value) (l : List Int) (n : Nat) (w : World) (hx : Ext u w) (hown : w.ownsRow u.heap.size 5 1 v l.length (bys l)) (hn : n ≤ 2000000) (hl : l.length ≤ 2000000) : Calls Try.prog 53 #[v, .int .i64 n] w fun e w' => ∃ v', e = .returned v' ∧ w'.ownsRow u.heap.size 5 1 v' (pad l n).length (bys (pad l n)) ∧ Ext u w' := by
  obtain ⟨i0, hi0, hz0, hz1, hz2⟩ := info_parts infoU8
  have hps := hid (fun m => pad_step m n)
  have hpe := hid (fun m => pad_of_le m n)
  go_enter Try.func53, Try.ntmps53
  go_wp2_with fail
  go_loopw [0] (fun o wr => ∃ m : List Int, Hid (wr.ownsRow u.heap.size 5 1 o m.length (bys m)) ∧ Hid (Ext u wr) ∧ Hid (pad m n = pad l n) ∧ m.length ≤ 2000000) (fun o _ => n - lenOf o)
  case atStart => exact ⟨l, hown, hx, rfl, hl⟩
  case round =>
    obtain ⟨m, ho, hx1, hp, hm⟩ := hrel
    obtain ⟨Ao, co, rfl, -⟩ := own_form ho.out
    by_cases hlt : m.length < n
    · have d : (m.length : Int) < (n : Int) := by omega
      have hp2 := hid ((hps.out m hlt).trans hp.out)
      go_wp2_with (at_builtin; refine wpList_push _ rfl _ _ 27 rfl u.heap.size 5 i0 _ 1 1 Try.underlying27 hi0 hz0 hz1 hz2 rfl (by decide) _ _ _ rfl ho.out [.int .u8 0] (by simp [Act.eval]) rfl (by simp [Value.oneCell']) (by unfold maxLen; omega) (by omega) hx1.out.size ?_)
      intro g2 d2 w2 own2 hg2 _
      have hx3 : Hid (Ext u w2) := ext_push hx1.out ho.out hg2
      have hl2 : (m ++ [0]).length = m.length + 1 := by simp
      have own3 : Hid (w2.ownsRow u.heap.size 5 1 (.slice (some ⟨g2, 0, none⟩) (m.length + 1) d2) (m ++ [0]).length (bys (m ++ [0]))) := by rw [hl2, bys_append]; exact own2
      clear hg2 own2 ho hx1 hp
      go_wp2_with fail
      go_roundw
      case rel => exact ⟨m ++ [0], own3, hx3, hp2, by omega⟩
      case measure => simp [lenOf]; omega
    · have d : ¬ (m.length : Int) < (n : Int) := by omega
      have e := hp.out
      rw [hpe.out m (by omega)] at e
      subst e
      go_wp2
      go_ret
      exact ⟨_, rfl, ho.out, hx1.out⟩
end
end Go.Proofs.Ytcgjhloiokpicaa
