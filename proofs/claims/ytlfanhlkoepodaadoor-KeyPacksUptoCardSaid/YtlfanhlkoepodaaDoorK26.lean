/-
  The bytes of a list of keys: the program.
-/
import Derived.Test.YtlfanhlkoepodaaDoorKW
import Derived.Test.YtlfanhlkoepodaaDoorK6
import Derived.Test.YtlfanhlkoepodaaDoorK19
import Derived.Lib.AppendStr
namespace Go.Proofs.YtlfanhlkoepodaaDoor
open Go.RowKit
set_option linter.unusedVariables false
set_option linter.unusedSimpArgs false
/-- 'out = append(out, x, y, ..)': they have just been laid into a block of their own. -/
theorem wpList_pushN {P : Program} (w : World) {ops : Array Oper} {rest : List Oper} {o : Oper} {a : Act} {Q : Exit → Act → World → Prop} (hgd : o.guard = none) (s x : Operand) (t : TypeId)
    (ho : o.op = .call { callee := .builtin .append, args := #[s, x], argTypes := #[t, t] })
    (base : Nat) (e : TypeId) (i : TypeInfo) (z : Value) (size bytes : Nat) (ht : P.underlying t = some (.slice e)) (hi : P.info? e = some i) (hz : i.zero = some z)
    (hsize : i.size = size) (hby : i.bytes = bytes) (hzs : z.cells.size = size) (hsz : 0 < size)
    (v : Value) (n m : Nat) (hm : 0 < m) (xs : List Value) (hs : a.eval s = v) (hown : w.ownsRow base e size v n xs)
    (es : List Value) (hx : a.eval x = .slice (some ⟨w.heap.size, 0, none⟩) m m) (hl : es.length = m * size) (h1 : ∀ u ∈ es, u.oneCell' = true)
    (h63 : n + m ≤ maxLen) (hbytes : (n + m) * bytes ≤ 140737488355328) (hbase : base ≤ w.heap.size)
    (h : ∀ g cap w', w'.ownsRow base e size (.slice (some ⟨g, 0, none⟩) (n + m) cap) (n + m) (xs ++ es) → w.grownBy w' v.ownBlock → (v.ownBlock = some g ∨ g = w.heap.size + 1) →
      wpList P ops Q rest (a.put o.dst (.slice (some ⟨g, 0, none⟩) (n + m) cap)) w') : wpList P ops Q (o :: rest) a (w.alloc (.cells es.toArray e)) := by
  refine wpList_append_lies _ hgd s x t ho base e i z size bytes ht hi hz hsize hby hzs hsz v n xs hs (hown.alloc _) ⟨w.heap.size, 0, none⟩ m m es hx hl ?_ h1 hm h63 hbytes (by simp; omega) (w.heap.size + 1) (by simp) ?_
  · intro j u hu
    have hadd : (⟨w.heap.size, 0, none⟩ : Addr).add j = ⟨w.heap.size, j, none⟩ := by unfold Addr.add; split <;> simp_all
    rw [hadd, cell_of_row _ w.heap.size j es.toArray e (0, 0) (heap_alloc_new w _)]
    simpa using hu
  · intro g cap w' hown' hgrow hat hlt
    refine h g cap w' hown' ⟨hgrow.os, hgrow.tape, hgrow.output, ?_, fun k hk hne => ?_⟩ hat
    · have := hgrow.size; simp at this; omega
    · rw [hgrow.block k (by simp; omega) hne]
      exact Below.heap_alloc w _ k hk
theorem strCells_bytes (s : ByteArray) : Go.Lib.strCells s = Pg.bytesC s.toList := by rw [ByteArray.toList_eq]; unfold Go.Lib.strCells Pg.bytesC Pg.byt; simp
def sthB (l : List ByteArray) (k : Nat) : ByteArray := Pg.sth l k
theorem drop_sth {l : List ByteArray} {k : Nat} (h : k < l.length) : l.drop k = Pg.sth l k :: l.drop (k + 1) := by
  rw [List.drop_eq_getElem_cons h]
  congr 1
  simp [Pg.sth, List.getD, h]
theorem RdS_at {w : World} {ad : Addr} {n c : Nat} {l : List ByteArray} (h : Pg.RdS w (some ad) n c l) {k : Nat} (hk : k < n) : w.cell? (ad.add k) = some (.string (Pg.sth l k)) := by
  obtain ⟨a, e, hc⟩ := Pg.RdS.at_ h hk
  obtain rfl := Option.some.inj e
  exact hc
theorem big_take (l : List ByteArray) (k : Nat) (hk : k < l.length) : bigL (l.take (k + 1)) = (bigL (l.take k) || decide (100 < (Pg.sth l k).size)) := by
  unfold bigL
  rw [List.take_succ_eq_append_getElem hk, List.any_append]
  simp [Pg.sth, List.getD, hk]
theorem big_at (l : List ByteArray) {k : Nat} (hk : k < l.length) (h : bigL l = false) : (Pg.sth l k).size ≤ 100 := by
  unfold bigL at h
  rw [List.any_eq_false] at h
  have := h (l[k]) (List.getElem_mem _)
  simp at this
  simp [Pg.sth, List.getD, hk]
  omega
theorem big_yes (l : List ByteArray) {k : Nat} (hk : k < l.length) (h : 100 < (Pg.sth l k).size) : bigL l = true := by
  cases e : bigL l with
  | true => rfl
  | false => have := big_at l hk e; omega
theorem big_all (l : List ByteArray) {n : Nat} (hn : l.length = n) (h : ∀ k, k < n → (Pg.sth l k).size ≤ 100) : bigL l = false := by
  unfold bigL
  rw [List.any_eq_false]
  intro x hx
  obtain ⟨k, hk, rfl⟩ := List.mem_iff_getElem.1 hx
  have := h k (by omega)
  simp [Pg.sth, List.getD, hk] at this
  simp
  omega
/-- The bytes of a list of keys, or an error. -/
def GiveBE (l : List UInt8) (x : Int) (w : World) (e : Ending) (w' : World) : Prop := ∃ A n c, e = .returned (.tuple #[.slice A n c, .int .i64 x]) ∧ Pg.RdB w' A n c l ∧ Ext w w' ∧ Fr w.heap.size A
theorem GiveBE.no {w w' : World} (x : Int) (h : Ext w w') : GiveBE [] x w (.returned (.tuple #[.slice none 0 0, .int .i64 x])) w' := ⟨_, _, _, rfl, Rd.none_ w' 1, h, Fr.none_ _⟩
theorem GiveBE.yes {w w' : World} {A : Option Addr} {n c : Nat} {l : List UInt8} {x : Int} (h : Pg.RdB w' A n c l) (hx : Ext w w') (hf : Fr w.heap.size A) : GiveBE l x w (.returned (.tuple #[.slice A n c, .int .i64 x])) w' := ⟨_, _, _, rfl, h, hx, hf⟩
theorem byt_byo {n : Nat} (h : n < 256) : Value.int .u8 (n : Int) = Pg.byt (byo n) := by unfold Pg.byt; rw [byo_val h]
theorem pk_step (out : List UInt8) (bf : List UInt8) (k : ByteArray) (hk : k.size ≤ 100) : Pg.bytesC out ++ [.int .u8 (cmnL bf k.toList : Nat), .int .u8 ((k.size - cmnL bf k.toList : Nat) : Int)] = Pg.bytesC (out ++ [byo (cmnL bf k.toList), byo (k.size - cmnL bf k.toList)]) := by
  have := cmn_le bf k.toList
  rw [len_toList] at this
  rw [byt_byo (by omega), byt_byo (by omega)]
  simp [Pg.bytesC]
theorem bytesC_app (a b : List UInt8) : Pg.bytesC (a ++ b) = Pg.bytesC a ++ Pg.bytesC b := by unfold Pg.bytesC; rw [List.map_append]
set_option maxRecDepth 100000 in
set_option maxHeartbeats 4000000 in
theorem common_q (a b : ByteArray) (hs : a.size ≤ 100000) (ht : b.size ≤ 100000) (w : World) : Calls Tryd.prog 65 #[.string a, .string b] w (Quiet (.int .i64 (cmnL a.toList b.toList : Nat)) w) := by
  have hle := cmn_le a.toList b.toList
  rw [len_toList, len_toList] at hle
  have hle := hid hle
  go_enter Tryd.func65, Tryd.ntmps65
  go_wp2_with fail
  go_loopw [5] (fun v wr => (∃ k : Nat, k ≤ a.size ∧ k ≤ b.size ∧ v = .int .i64 k ∧ Hid (cmnL a.toList b.toList = k + cmnL (a.toList.drop k) (b.toList.drop k))) ∧ Dr w wr) (fun v _ => a.size - (intOf v).toNat)
  case atStart => exact ⟨⟨0, by omega, by omega, rfl, by unfold Hid; simp⟩, Dr.refl _⟩
  case round =>
    obtain ⟨⟨k, hk, hkb0, rfl, hinv⟩, hx⟩ := hrel
    replace hx := hid hx
    by_cases h1 : k < a.size
    · have d1 : decide ((k : Int) < (a.size : Int)) = true := by simp; omega
      by_cases hkb : k < b.size
      · have d2 : decide ((k : Int) < (b.size : Int)) = true := by simp; omega
        rcases Bool.eq_false_or_eq_true (((a[k]'h1).toNat : Int) == ((b[k]'hkb).toNat : Int)) with q | q
        · have hn := hid (cmn_of h1 hkb hinv.out q)
          go_wp2
          go_quiet (fail)
          go_wp2
          go_roundw
          case rel => exact ⟨⟨k + 1, by omega, by omega, by go_num, hn⟩, hx.out.step _⟩
          case measure => simp [intOf]; omega
        · have hc := hid (cmn_of' h1 hkb hinv.out q)
          clear hinv
          go_wp2
          go_quiet (fail)
          go_wp2
          go_ret
          exact ⟨by rw [hc.out]; rfl, hx.out.step _⟩
      · have d2 : decide ((k : Int) < (b.size : Int)) = false := by simp; omega
        have hc := hid (cmn_stop hinv.out (by rw [len_toList, len_toList]; omega))
        clear hinv
        go_wp2
        go_quiet (fail)
        go_wp2
        go_ret
        exact ⟨by rw [hc.out]; rfl, hx.out.step _⟩
    · have d1 : decide ((k : Int) < (a.size : Int)) = false := by simp; omega
      have hc := hid (cmn_stop hinv.out (by rw [len_toList, len_toList]; omega))
      clear hinv
      go_wp2
      go_quiet (fail)
      go_wp2
      go_ret
      exact ⟨by rw [hc.out]; rfl, hx.out.step _⟩
theorem common_any (a b : ByteArray) (hs : a.size ≤ 100000) (ht : b.size ≤ 100000) (w : World) : Calls Tryd.prog 65 #[.string a, .string b] w (Give (.int .i64 (cmnL a.toList b.toList : Nat)) w) := (common_q a b hs ht w).mono fun _ _ ⟨h, k⟩ => ⟨h, k.ext⟩
end Go.Proofs.YtlfanhlkoepodaaDoor
