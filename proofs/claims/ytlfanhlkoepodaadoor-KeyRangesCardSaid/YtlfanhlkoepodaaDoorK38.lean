/-
  Between which keys the values are for which a comparison holds.
-/
import Derived.Test.YtlfanhlkoepodaaDoorK37
import Derived.Test.YtlfanhlkoepodaaDoorK4
namespace Go.Proofs.YtlfanhlkoepodaaDoor
open Go.RowKit
set_option linter.unusedVariables false
set_option linter.unusedSimpArgs false
/-- What Range gives: the error, or the bounds and whether they are sure. -/
def rngE (op : ByteArray) (k n : Int) (s : ByteArray) (p c : Int) : Int := if askV k n s p c ≠ 0 then askV k n s p c else if isOp op = false then 1 else if k = 0 then 6 else 0
def GiveR (a b : ByteArray) (x : Bool) (y : Int) (w : World) (e : Ending) (w' : World) : Prop := e = .returned (.tuple #[.string a, .string b, .bool x, .int .i64 y]) ∧ Ext w w'
theorem behR_len : ∀ (r : List UInt8) {l : List UInt8}, behR r = some l → l.length ≤ r.length
  | [], l, h => by cases h
  | b :: r, l, h => by
    rw [behR] at h
    split at h
    · have := behR_len r h
      simp
      omega
    · obtain rfl := Option.some.inj h
      simp
theorem behS_size (s : ByteArray) : (behS s).size ≤ s.size := by
  cases h : behL s.toList with
  | none => rw [(beh_n h).1]; exact Nat.zero_le _
  | some l =>
    rw [(beh_s h).1, strB_size]
    have := behR_len _ h
    rw [List.length_reverse, len_toList] at this
    exact this
theorem bnd_size (o : Nat) (k n : Int) (s : ByteArray) (x : Bool) (p c : Int) : (bnd o k n s x p c).1.size ≤ 100 ∧ (bnd o k n s x p c).2.size ≤ 100 := by
  have h1 := keyB_size k n s p c
  have h2 := behS_size (keyB k n s p c)
  have h3 : (kiB k).size = 1 := by show (strB [byo k.toNat]).size = 1; rw [strB_size]; rfl
  have h4 : (enB k).size ≤ 1 := by have := behS_size (kiB k); unfold enB; omega
  have h5 : (strB (preL s p c)).size ≤ 97 := by rw [strB_size]; exact preL_len s p c
  have h6 := behS_size (strB (preL s p c))
  have h7 : (neaL s x p c).size ≤ 97 := by unfold neaL; rw [strB_size]; exact preL_len _ p c
  have h8 : (neaH s x p c).size ≤ 97 := by have := behS_size (neaL s x p c); unfold neaH; omega
  unfold bnd
  repeat' split
  all_goals
    refine ⟨?_, ?_⟩ <;> dsimp only <;> omega
theorem results_four {fn : Func} {t u v x : Tmp} (h : fn.results = #[.tmp t, .tmp u, .tmp v, .tmp x]) (tmps : Array Value) (P : Program) (w : World) : (results fn tmps).run P w = .ok (.tuple #[tmps.getD t undef, tmps.getD u undef, tmps.getD v undef, tmps.getD x undef]) w := by
  simp [results, h, go_sem]
set_option maxRecDepth 100000 in
set_option maxHeartbeats 20000000 in
theorem Range_no (op : ByteArray) (k n : Int) (s : ByteArray) (x : Bool) (p c : Int) (d : Bool) (hz : op.size ≤ 40000) (hE0 : rngE op k n s p c ≠ 0) (w : World) (hm : ML w) : Calls Tryd.prog 49 #[.string op, vV k n s, .bool x, .int .i64 p, .int .i64 c, .bool d] w (GiveR { data := #[] } { data := #[] } false (rngE op k n s p c) w) := by
  have ca := hid (fun w => asked_any k n s p c w)
  have c1 := hid (fun w hm => con_tab op w hm)
  have c2 := hid (fun w hm => con_sp op hz w hm)
  have ad1 := str_add { data := #[32] } op (by show 1 + _ ≤ _; omega)
  have ad2 := str_add ({ data := #[32] } ++ op) { data := #[32] } (by rw [ByteArray.size_append]; show 1 + _ + 1 ≤ _; omega)
  rw [show ({ data := #[32] } ++ op) ++ { data := #[32] } = opT op from rfl] at ad2
  generalize ({ data := #[32] } ++ op : ByteArray) = T1 at *
  generalize opT op = TT at *
  by_cases he : askV k n s p c = 0
  rotate_left
  · have d0 : (askV k n s p c != 0) = true := by simpa using he
    rw [show rngE op k n s p c = askV k n s p c by unfold rngE; rw [if_pos he]]
    clear he hE0 c1 c2 ad1 ad2
    generalize askV k n s p c = E at *
    unfold vV at *
    replace hm := hid hm
    go_enter Tryd.func49, Tryd.ntmps49
    go_upto_region 1 with fail
    generalize hw_ : w.alloc (.cells #[.int .i64 k, .int .i64 n, .string s] 23) = w1
    have hx1 : Ext (w.alloc (.cells #[.int .i64 k, .int .i64 n, .string s] 23)) w1 := by rw [hw_]; exact Ext.refl _
    clear hw_
    have a0 : w1.cell? ⟨w.heap.size, 0, none⟩ = some (.int .i64 k) := hx1.cell (by go_simp)
    have a1 : w1.cell? ⟨w.heap.size, 1, none⟩ = some (.int .i64 n) := hx1.cell (by go_simp)
    have a2 : w1.cell? ⟨w.heap.size, 2, none⟩ = some (.string s) := hx1.cell (by go_simp)
    have hE := hid (Ext.trans ((Ext.refl w).alloc_right _) hx1)
    have lt := World.block_lt_of_cell? w1 _ a0
    clear hx1
    go_wp2_with fail
    refine (ca.out _).mono ?_
    rintro e w2 ⟨rfl, hx⟩
    replace a0 := hx.cell a0
    replace a1 := hx.cell a1
    replace a2 := hx.cell a2
    replace hE := hid (hE.out.trans hx)
    clear hx lt
    have lt := World.block_lt_of_cell? w2 _ a0
    go_wp2
    try simp only [Exit.inBlock, Exit.then]
    refine bodyPost_ret (results_four rfl _ _ _) rfl ?_
    exact ⟨rfl, hE.out⟩
  have hR : rngE op k n s p c = if isOp op = false then 1 else if k = 0 then 6 else 0 := by unfold rngE; rw [if_neg (by simpa using he)]
  rw [hR] at hE0 ⊢
  clear hR
  rw [he] at ca
  clear he
  cases hop : isOp op with
  | false =>
    rw [if_pos rfl]
    have hf := op_fn hop
    clear hop hE0
    generalize opA op = QA at *
    generalize opS op = QS at *
    rcases hf with rfl | ⟨rfl, q⟩ | ⟨rfl, q, rfl⟩
    · clear c2
      unfold vV at *
      replace hm := hid hm
      go_enter Tryd.func49, Tryd.ntmps49
      go_upto_region 1 with fail
      generalize hw_ : w.alloc (.cells #[.int .i64 k, .int .i64 n, .string s] 23) = w1
      have hx1 : Ext (w.alloc (.cells #[.int .i64 k, .int .i64 n, .string s] 23)) w1 := by rw [hw_]; exact Ext.refl _
      clear hw_
      have a0 : w1.cell? ⟨w.heap.size, 0, none⟩ = some (.int .i64 k) := hx1.cell (by go_simp)
      have a1 : w1.cell? ⟨w.heap.size, 1, none⟩ = some (.int .i64 n) := hx1.cell (by go_simp)
      have a2 : w1.cell? ⟨w.heap.size, 2, none⟩ = some (.string s) := hx1.cell (by go_simp)
      have hE := hid (Ext.trans ((Ext.refl w).alloc_right _) hx1)
      have lt := World.block_lt_of_cell? w1 _ a0
      clear hx1
      go_wp2_with fail
      refine (ca.out _).mono ?_
      rintro e w2 ⟨rfl, hx⟩
      replace a0 := hx.cell a0
      replace a1 := hx.cell a1
      replace a2 := hx.cell a2
      replace hE := hid (hE.out.trans hx)
      clear hx lt
      have lt := World.block_lt_of_cell? w2 _ a0
      go_wp2_with fail
      refine (c1.out _ (hm.out.ext hE.out)).mono ?_
      rintro e w' ⟨rfl, rfl⟩
      go_wp2
      try simp only [Exit.inBlock, Exit.then]
      refine bodyPost_ret (results_four rfl _ _ _) rfl ?_
      exact ⟨rfl, hE.out⟩
    · clear c2
      unfold vV at *
      replace hm := hid hm
      go_enter Tryd.func49, Tryd.ntmps49
      go_upto_region 1 with fail
      generalize hw_ : w.alloc (.cells #[.int .i64 k, .int .i64 n, .string s] 23) = w1
      have hx1 : Ext (w.alloc (.cells #[.int .i64 k, .int .i64 n, .string s] 23)) w1 := by rw [hw_]; exact Ext.refl _
      clear hw_
      have a0 : w1.cell? ⟨w.heap.size, 0, none⟩ = some (.int .i64 k) := hx1.cell (by go_simp)
      have a1 : w1.cell? ⟨w.heap.size, 1, none⟩ = some (.int .i64 n) := hx1.cell (by go_simp)
      have a2 : w1.cell? ⟨w.heap.size, 2, none⟩ = some (.string s) := hx1.cell (by go_simp)
      have hE := hid (Ext.trans ((Ext.refl w).alloc_right _) hx1)
      have lt := World.block_lt_of_cell? w1 _ a0
      clear hx1
      go_wp2_with fail
      refine (ca.out _).mono ?_
      rintro e w2 ⟨rfl, hx⟩
      replace a0 := hx.cell a0
      replace a1 := hx.cell a1
      replace a2 := hx.cell a2
      replace hE := hid (hE.out.trans hx)
      clear hx lt
      have lt := World.block_lt_of_cell? w2 _ a0
      go_wp2_with fail
      refine (c1.out _ (hm.out.ext hE.out)).mono ?_
      rintro e w' ⟨rfl, rfl⟩
      go_wp2
      try simp only [Exit.inBlock, Exit.then]
      refine bodyPost_ret (results_four rfl _ _ _) rfl ?_
      exact ⟨rfl, hE.out⟩
    · unfold vV at *
      replace hm := hid hm
      go_enter Tryd.func49, Tryd.ntmps49
      go_upto_region 1 with fail
      generalize hw_ : w.alloc (.cells #[.int .i64 k, .int .i64 n, .string s] 23) = w1
      have hx1 : Ext (w.alloc (.cells #[.int .i64 k, .int .i64 n, .string s] 23)) w1 := by rw [hw_]; exact Ext.refl _
      clear hw_
      have a0 : w1.cell? ⟨w.heap.size, 0, none⟩ = some (.int .i64 k) := hx1.cell (by go_simp)
      have a1 : w1.cell? ⟨w.heap.size, 1, none⟩ = some (.int .i64 n) := hx1.cell (by go_simp)
      have a2 : w1.cell? ⟨w.heap.size, 2, none⟩ = some (.string s) := hx1.cell (by go_simp)
      have hE := hid (Ext.trans ((Ext.refl w).alloc_right _) hx1)
      have lt := World.block_lt_of_cell? w1 _ a0
      clear hx1
      go_wp2_with fail
      refine (ca.out _).mono ?_
      rintro e w2 ⟨rfl, hx⟩
      replace a0 := hx.cell a0
      replace a1 := hx.cell a1
      replace a2 := hx.cell a2
      replace hE := hid (hE.out.trans hx)
      clear hx lt
      have lt := World.block_lt_of_cell? w2 _ a0
      go_wp2_with fail
      refine (c1.out _ (hm.out.ext hE.out)).mono ?_
      rintro e w' ⟨rfl, rfl⟩
      go_wp2_with fail
      refine (c2.out _ (hm.out.ext hE.out)).mono ?_
      rintro e w' ⟨rfl, rfl⟩
      go_wp2
      try simp only [Exit.inBlock, Exit.then]
      refine bodyPost_ret (results_four rfl _ _ _) rfl ?_
      exact ⟨rfl, hE.out⟩
  | true =>
    rw [if_neg (by simp)]
    rw [hop, if_neg (by simp)] at hE0
    obtain ⟨q1, q2, q3⟩ := op_fy hop
    clear hop
    rw [q1] at c1
    rw [q2] at c2
    have hk0 : k = 0 := by
      by_cases h : k = 0
      · exact h
      · rw [if_neg h] at hE0; exact absurd rfl hE0
    rw [if_pos hk0]
    have k0 : (k == 0) = true := by simpa using hk0
    clear hk0
    clear hE0 q1 q2
    unfold vV at *
    replace hm := hid hm
    go_enter Tryd.func49, Tryd.ntmps49
    go_upto_region 1 with fail
    generalize hw_ : w.alloc (.cells #[.int .i64 k, .int .i64 n, .string s] 23) = w1
    have hx1 : Ext (w.alloc (.cells #[.int .i64 k, .int .i64 n, .string s] 23)) w1 := by rw [hw_]; exact Ext.refl _
    clear hw_
    have a0 : w1.cell? ⟨w.heap.size, 0, none⟩ = some (.int .i64 k) := hx1.cell (by go_simp)
    have a1 : w1.cell? ⟨w.heap.size, 1, none⟩ = some (.int .i64 n) := hx1.cell (by go_simp)
    have a2 : w1.cell? ⟨w.heap.size, 2, none⟩ = some (.string s) := hx1.cell (by go_simp)
    have hE := hid (Ext.trans ((Ext.refl w).alloc_right _) hx1)
    have lt := World.block_lt_of_cell? w1 _ a0
    clear hx1
    go_wp2_with fail
    refine (ca.out _).mono ?_
    rintro e w2 ⟨rfl, hx⟩
    replace a0 := hx.cell a0
    replace a1 := hx.cell a1
    replace a2 := hx.cell a2
    replace hE := hid (hE.out.trans hx)
    clear hx lt
    have lt := World.block_lt_of_cell? w2 _ a0
    go_wp2_with fail
    refine (c1.out _ (hm.out.ext hE.out)).mono ?_
    rintro e w' ⟨rfl, rfl⟩
    go_wp2_with fail
    refine (c2.out _ (hm.out.ext hE.out)).mono ?_
    rintro e w' ⟨rfl, rfl⟩
    go_wp2
    try simp only [Exit.inBlock, Exit.then]
    refine bodyPost_ret (results_four rfl _ _ _) rfl ?_
    exact ⟨rfl, hE.out⟩
/-- Are the bounds sure? -/
def sureB (o : Nat) (k : Int) (s : ByteArray) (x : Bool) (c : Int) : Bool := decide (c = 0) && (decide (k ≠ 4) || (decide (s.size < 48) && !(decide (o = 0) && x)))
def dnL (d : Bool) (r : ByteArray × ByteArray) : ByteArray := if d then trnL r.2 else r.1
def dnH (d : Bool) (r : ByteArray × ByteArray) : ByteArray := if d then trnL r.1 else r.2
theorem op_eq {o : Nat} (h : o < 6) : ((opB o).toList == [61]) = decide (o = 0) := by
  have : o = 0 ∨ o = 1 ∨ o = 2 ∨ o = 3 ∨ o = 4 ∨ o = 5 := by omega
  rcases this with rfl | rfl | rfl | rfl | rfl | rfl <;> simp [opB, ByteArray.toList_eq]
set_option maxRecDepth 100000 in
set_option maxHeartbeats 20000000 in
theorem Range_yes (o : Nat) (ho : o < 6) (k n : Int) (s : ByteArray) (x : Bool) (p c : Int) (d : Bool) (he : askV k n s p c = 0) (hk : k ≠ 0) (w : World) (hm : ML w) : Calls Tryd.prog 49 #[.string (opB o), vV k n s, .bool x, .int .i64 p, .int .i64 c, .bool d] w (GiveR (dnL d (bnd o k n s x p c)) (dnH d (bnd o k n s x p c)) (sureB o k s x c) 0 w) := by
  have hz : (opB o).size ≤ 40000 := by have : o = 0 ∨ o = 1 ∨ o = 2 ∨ o = 3 ∨ o = 4 ∨ o = 5 := by omega
                                       rcases this with rfl | rfl | rfl | rfl | rfl | rfl <;> decide
  obtain ⟨hv, hco⟩ := askV_ok he
  have hsz := val_size hv
  have cb := hid (fun w hm => bounds_any o ho k n s x p c hv hco w hm)
  have hbs := bnd_size o k n s x p c
  have ct := hid (fun w => turned_any (bnd o k n s x p c).1 (bnd o k n s x p c).2 (by omega) (by omega) w)
  generalize bnd o k n s x p c = R at *
  obtain ⟨lo, hi⟩ := R
  simp only at cb ct
  clear hbs hv hco
  obtain ⟨q1, q2, q3⟩ := op_fy (isOp_op ho)
  have q4 := op_eq ho
  clear ho
  have hS := hid (show sureB o k s x c = _ from rfl)
  unfold sureB at hS
  replace hS : Hid ((decide (c = 0) && (decide (k ≠ 4) || (decide (s.size < 48) && !(decide (o = 0) && x)))) = sureB o k s x c) := rfl
  generalize sureB o k s x c = SU at *
  generalize decide (o = 0) = O0 at *
  generalize opB o = op at *
  cases d with
  | false =>
    have ca := hid (fun w => asked_any k n s p c w)
    have c1 := hid (fun w hm => con_tab op w hm)
    have c2 := hid (fun w hm => con_sp op hz w hm)
    have ad1 := str_add { data := #[32] } op (by show 1 + _ ≤ _; omega)
    have ad2 := str_add ({ data := #[32] } ++ op) { data := #[32] } (by rw [ByteArray.size_append]; show 1 + _ + 1 ≤ _; omega)
    rw [show ({ data := #[32] } ++ op) ++ { data := #[32] } = opT op from rfl] at ad2
    generalize ({ data := #[32] } ++ op : ByteArray) = T1 at *
    generalize opT op = TT at *
    rw [show dnL false (lo, hi) = lo from rfl, show dnH false (lo, hi) = hi from rfl]
    rw [he] at ca
    clear he
    rw [q1] at c1
    rw [q2] at c2
    have k0 : (k == 0) = false := by simpa using hk
    clear q1 q2 hk
    unfold vV at *
    replace hm := hid hm
    go_enter Tryd.func49, Tryd.ntmps49
    go_upto_region 1 with fail
    generalize hw_ : w.alloc (.cells #[.int .i64 k, .int .i64 n, .string s] 23) = w1
    have hx1 : Ext (w.alloc (.cells #[.int .i64 k, .int .i64 n, .string s] 23)) w1 := by rw [hw_]; exact Ext.refl _
    clear hw_
    have a0 : w1.cell? ⟨w.heap.size, 0, none⟩ = some (.int .i64 k) := hx1.cell (by go_simp)
    have a1 : w1.cell? ⟨w.heap.size, 1, none⟩ = some (.int .i64 n) := hx1.cell (by go_simp)
    have a2 : w1.cell? ⟨w.heap.size, 2, none⟩ = some (.string s) := hx1.cell (by go_simp)
    have hE := hid (Ext.trans ((Ext.refl w).alloc_right _) hx1)
    have lt := World.block_lt_of_cell? w1 _ a0
    clear hx1
    go_wp2_with fail
    refine (ca.out _).mono ?_
    rintro e w2 ⟨rfl, hx⟩
    replace a0 := hx.cell a0
    replace a1 := hx.cell a1
    replace a2 := hx.cell a2
    replace hE := hid (hE.out.trans hx)
    clear hx lt
    have lt := World.block_lt_of_cell? w2 _ a0
    go_wp2_with fail
    refine (c1.out _ (hm.out.ext hE.out)).mono ?_
    rintro e w' ⟨rfl, rfl⟩
    go_wp2_with fail
    refine (c2.out _ (hm.out.ext hE.out)).mono ?_
    rintro e w' ⟨rfl, rfl⟩
    go_wp2_with fail
    refine (cb.out _ (hm.out.ext hE.out)).mono ?_
    rintro e w3 ⟨rfl, hx⟩
    replace a0 := hx.cell a0
    replace a1 := hx.cell a1
    replace a2 := hx.cell a2
    replace hE := hid (hE.out.trans hx)
    clear hx lt
    have lt := World.block_lt_of_cell? w3 _ a0
    clear ca c1 c2 cb ad1 ad2
    by_cases hc : c = 0
    rotate_left
    · have e1 : (c == 0) = false := by simpa using hc
      obtain rfl : SU = false := by rw [← hS.out]; simp [hc]
      clear hS hc
      go_wp2
      try simp only [Exit.inBlock, Exit.then]
      refine bodyPost_ret (results_four rfl _ _ _) rfl ?_
      exact ⟨rfl, hE.out⟩
    subst hc
    by_cases h4 : k = 4
    rotate_left
    · have e1 : (k != 4) = true := by simpa using h4
      obtain rfl : SU = true := by rw [← hS.out]; simp [h4]
      clear hS h4
      go_wp2
      try simp only [Exit.inBlock, Exit.then]
      refine bodyPost_ret (results_four rfl _ _ _) rfl ?_
      exact ⟨rfl, hE.out⟩
    subst h4
    by_cases hs : s.size < 48
    rotate_left
    · have e1 : decide ((s.size : Int) < 48) = false := by simp; omega
      obtain rfl : SU = false := by rw [← hS.out]; simp; omega
      clear hS hs
      go_wp2
      try simp only [Exit.inBlock, Exit.then]
      refine bodyPost_ret (results_four rfl _ _ _) rfl ?_
      exact ⟨rfl, hE.out⟩
    have e1 : decide ((s.size : Int) < 48) = true := by simp; omega
    have e2 : decide (s.size < 48) = true := by simpa using hs
    rw [e2] at hS
    clear hs e2
    obtain rfl : SU = !(O0 && x) := by rw [← hS.out]; simp
    clear hS
    cases O0 <;> cases x
    all_goals
      go_wp2
      try simp only [Exit.inBlock, Exit.then]
      refine bodyPost_ret (results_four rfl _ _ _) rfl ?_
      exact ⟨rfl, hE.out⟩
  | true =>
    have ca := hid (fun w => asked_any k n s p c w)
    have c1 := hid (fun w hm => con_tab op w hm)
    have c2 := hid (fun w hm => con_sp op hz w hm)
    have ad1 := str_add { data := #[32] } op (by show 1 + _ ≤ _; omega)
    have ad2 := str_add ({ data := #[32] } ++ op) { data := #[32] } (by rw [ByteArray.size_append]; show 1 + _ + 1 ≤ _; omega)
    rw [show ({ data := #[32] } ++ op) ++ { data := #[32] } = opT op from rfl] at ad2
    generalize ({ data := #[32] } ++ op : ByteArray) = T1 at *
    generalize opT op = TT at *
    rw [show dnL true (lo, hi) = trnL hi from rfl, show dnH true (lo, hi) = trnL lo from rfl]
    generalize trnL hi = TH at *
    generalize trnL lo = TL at *
    rw [he] at ca
    clear he
    rw [q1] at c1
    rw [q2] at c2
    have k0 : (k == 0) = false := by simpa using hk
    clear q1 q2 hk
    unfold vV at *
    replace hm := hid hm
    go_enter Tryd.func49, Tryd.ntmps49
    go_upto_region 1 with fail
    generalize hw_ : w.alloc (.cells #[.int .i64 k, .int .i64 n, .string s] 23) = w1
    have hx1 : Ext (w.alloc (.cells #[.int .i64 k, .int .i64 n, .string s] 23)) w1 := by rw [hw_]; exact Ext.refl _
    clear hw_
    have a0 : w1.cell? ⟨w.heap.size, 0, none⟩ = some (.int .i64 k) := hx1.cell (by go_simp)
    have a1 : w1.cell? ⟨w.heap.size, 1, none⟩ = some (.int .i64 n) := hx1.cell (by go_simp)
    have a2 : w1.cell? ⟨w.heap.size, 2, none⟩ = some (.string s) := hx1.cell (by go_simp)
    have hE := hid (Ext.trans ((Ext.refl w).alloc_right _) hx1)
    have lt := World.block_lt_of_cell? w1 _ a0
    clear hx1
    go_wp2_with fail
    refine (ca.out _).mono ?_
    rintro e w2 ⟨rfl, hx⟩
    replace a0 := hx.cell a0
    replace a1 := hx.cell a1
    replace a2 := hx.cell a2
    replace hE := hid (hE.out.trans hx)
    clear hx lt
    have lt := World.block_lt_of_cell? w2 _ a0
    go_wp2_with fail
    refine (c1.out _ (hm.out.ext hE.out)).mono ?_
    rintro e w' ⟨rfl, rfl⟩
    go_wp2_with fail
    refine (c2.out _ (hm.out.ext hE.out)).mono ?_
    rintro e w' ⟨rfl, rfl⟩
    go_wp2_with fail
    refine (cb.out _ (hm.out.ext hE.out)).mono ?_
    rintro e w3 ⟨rfl, hx⟩
    replace a0 := hx.cell a0
    replace a1 := hx.cell a1
    replace a2 := hx.cell a2
    replace hE := hid (hE.out.trans hx)
    clear hx lt
    have lt := World.block_lt_of_cell? w3 _ a0
    clear ca c1 c2 cb ad1 ad2
    go_wp2_with fail
    refine (ct.out _).mono ?_
    rintro e w4 ⟨rfl, hx⟩
    replace a0 := hx.cell a0
    replace a1 := hx.cell a1
    replace a2 := hx.cell a2
    replace hE := hid (hE.out.trans hx)
    clear hx lt
    have lt := World.block_lt_of_cell? w4 _ a0
    clear ct
    by_cases hc : c = 0
    rotate_left
    · have e1 : (c == 0) = false := by simpa using hc
      obtain rfl : SU = false := by rw [← hS.out]; simp [hc]
      clear hS hc
      go_wp2
      try simp only [Exit.inBlock, Exit.then]
      refine bodyPost_ret (results_four rfl _ _ _) rfl ?_
      exact ⟨rfl, hE.out⟩
    subst hc
    by_cases h4 : k = 4
    rotate_left
    · have e1 : (k != 4) = true := by simpa using h4
      obtain rfl : SU = true := by rw [← hS.out]; simp [h4]
      clear hS h4
      go_wp2
      try simp only [Exit.inBlock, Exit.then]
      refine bodyPost_ret (results_four rfl _ _ _) rfl ?_
      exact ⟨rfl, hE.out⟩
    subst h4
    by_cases hs : s.size < 48
    rotate_left
    · have e1 : decide ((s.size : Int) < 48) = false := by simp; omega
      obtain rfl : SU = false := by rw [← hS.out]; simp; omega
      clear hS hs
      go_wp2
      try simp only [Exit.inBlock, Exit.then]
      refine bodyPost_ret (results_four rfl _ _ _) rfl ?_
      exact ⟨rfl, hE.out⟩
    have e1 : decide ((s.size : Int) < 48) = true := by simp; omega
    have e2 : decide (s.size < 48) = true := by simpa using hs
    rw [e2] at hS
    clear hs e2
    obtain rfl : SU = !(O0 && x) := by rw [← hS.out]; simp
    clear hS
    cases O0 <;> cases x
    all_goals
      go_wp2
      try simp only [Exit.inBlock, Exit.then]
      refine bodyPost_ret (results_four rfl _ _ _) rfl ?_
      exact ⟨rfl, hE.out⟩
end Go.Proofs.YtlfanhlkoepodaaDoor
