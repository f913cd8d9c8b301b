import Derived.Test.YtffcaoicokookaaT13
namespace Go.Proofs.Ytffcaoicokookaa
open Go.RowKit
attribute [local go_sem ↓] Go.wp_at_zero Go.wp_at_succ
set_option linter.unusedVariables false
/-- 'out = append(out, x, y, ..)': the m elements have just been laid into a block of their own. -/
theorem wpList_pushM {P : Program} (w : World) {ops : Array Oper} {rest : List Oper} {o : Oper} {a : Act} {Q : Exit → Act → World → Prop} (hgd : o.guard = none) (s x : Operand) (t : TypeId)
    (ho : o.op = .call { callee := .builtin .append, args := #[s, x], argTypes := #[t, t] })
    (base : Nat) (e : TypeId) (i : TypeInfo) (z : Value) (size bytes : Nat) (ht : P.underlying t = some (.slice e)) (hi : P.info? e = some i) (hz : i.zero = some z)
    (hsize : i.size = size) (hby : i.bytes = bytes) (hzs : z.cells.size = size) (hsz : 0 < size)
    (v : Value) (n : Nat) (xs : List Value) (hs : a.eval s = v) (hown : w.ownsRow base e size v n xs)
    (m : Nat) (es : List Value) (hx : a.eval x = .slice (some ⟨w.heap.size, 0, none⟩) m m) (hl : es.length = m * size) (hm : 0 < m) (h1 : ∀ u ∈ es, u.oneCell' = true)
    (h63 : n + m ≤ maxLen) (hbytes : (n + m) * bytes ≤ 140737488355328) (hbase : base ≤ w.heap.size)
    (h : ∀ g cap w', w'.ownsRow base e size (.slice (some ⟨g, 0, none⟩) (n + m) cap) (n + m) (xs ++ es) → w.grownBy w' v.ownBlock → (v.ownBlock = some g ∨ g = w.heap.size + 1) →
      wpList P ops Q rest (a.put o.dst (.slice (some ⟨g, 0, none⟩) (n + m) cap)) w') : wpList P ops Q (o :: rest) a (w.alloc (.cells es.toArray e)) := by
  refine wpList_append_lies _ hgd s x t ho base e i z size bytes ht hi hz hsize hby hzs hsz v n xs hs (hown.alloc _) ⟨w.heap.size, 0, none⟩ m m es hx hl
    (World.news_of_block (cs := es.toArray) (heap_alloc_new w _)) h1 hm h63 hbytes (by simp; omega) (w.heap.size + 1) (by simp) ?_
  intro g cap w' hown' hgrow hat hlt
  refine h g cap w' hown' ⟨hgrow.os, hgrow.tape, hgrow.output, ?_, fun k hk hne => ?_⟩ hat
  · have := hgrow.size; simp at this; omega
  · rw [hgrow.block k (by simp; omega) hne]
    exact Below.heap_alloc w _ k hk

/-! ### Bytes -/
def byt (b : UInt8) : Value := .int .u8 (b.toNat : Int)
def bytesC (l : List UInt8) : List Value := l.map byt
theorem bytesC_append (l m : List UInt8) : bytesC (l ++ m) = bytesC l ++ bytesC m := by simp [bytesC]
theorem bytesC_one (l : List UInt8) : ∀ u ∈ bytesC l, u.oneCell' = true := by
  intro u hu
  obtain ⟨_, _, rfl⟩ := List.mem_map.1 hu
  rfl
def RdB (w : World) (A : Option Addr) (n c : Nat) (l : List UInt8) : Prop := Rd w 1 A n c (bytesC l)
theorem RdB.len {w : World} {A : Option Addr} {n c : Nat} {l : List UInt8} (h : RdB w A n c l) : l.length = n := by have := h.1; simpa [bytesC] using this
theorem Try.info5 : (Try.prog.info? 5).map (fun i => (i.zero, i.size, i.bytes)) = some (some (.int .u8 0), 1, 1) := by kernel_rfl
def bOf (x : Int) : UInt8 := UInt8.ofNat x.toNat
theorem bOf_val (x : Int) (h0 : 0 ≤ x) (h1 : x ≤ 255) : ((bOf x).toNat : Int) = x := by
  unfold bOf
  rw [UInt8.toNat_ofNat']
  omega
theorem byt_of (x : Int) (h0 : 0 ≤ x) (h1 : x ≤ 255) : Value.int .u8 x = byt (bOf x) := by unfold byt; rw [bOf_val x h0 h1]
theorem u8_in (x : Int) (h0 : 0 ≤ x) (h1 : x ≤ 255) : IntKind.u8.wrap x = x := by simp [IntKind.wrap, IntKind.bits, IntKind.signed]; omega
def numS (x : Int) : List UInt8 := if x < 128 then [bOf x] else [bOf (128 + x % 128), bOf (x / 128)]
theorem numS_lo {x : Int} (h0 : 0 ≤ x) (h : x < 128) : bytesC (numS x) = [.int .u8 x] := by rw [numS, if_pos h]; simp [bytesC, ← byt_of x h0 (by omega)]
theorem numS_hi {x : Int} (h0 : 128 ≤ x) (h : x ≤ 1000) : bytesC (numS x) = [.int .u8 (128 + x % 128), .int .u8 (x / 128)] := by
  rw [numS, if_neg (by omega)]
  simp [bytesC, ← byt_of (128 + x % 128) (by omega) (by omega), ← byt_of (x / 128) (by omega) (by omega)]
theorem numS_len (x : Int) : (numS x).length ≤ 2 := by unfold numS; split <;> simp
/-- It hands back what was owned, and some cells behind it. -/
def Grow (base : Nat) (e : TypeId) (n : Nat) (xs : List Value) (row : Option Nat) (w : World) (en : Ending) (w' : World) : Prop :=
  ∃ g cap, en = .returned (.slice (some ⟨g, 0, none⟩) n cap) ∧ w'.ownsRow base e 1 (.slice (some ⟨g, 0, none⟩) n cap) n xs ∧ w.grownBy w' row ∧ (row = some g ∨ w.heap.size ≤ g)
set_option maxRecDepth 100000 in
set_option maxHeartbeats 1000000 in
theorem number_any (base : Nat) (A : Option Addr) (n c : Nat) (l : List UInt8) (x : Int) (w : World) (hown : w.ownsRow base 5 1 (.slice A n c) n (bytesC l)) (hb : base ≤ w.heap.size) (h0 : 0 ≤ x) (h1 : x ≤ 1000) (hn : n ≤ 100000) :
    Calls Try.prog 72 #[.slice A n c, .int .i64 x] w (Grow base 5 (n + (numS x).length) (bytesC (l ++ numS x)) (Value.slice A n c).ownBlock w) := by
  obtain ⟨i0, hi, hz0, hz1, hz2⟩ := info_parts Try.info5
  by_cases hx : x < 128
  · have ew := u8_in x h0 (by omega)
    have en : Hid ((numS x).length = 1) := by unfold Hid numS; rw [if_pos hx]; rfl
    have eb : Hid (bytesC (l ++ numS x) = bytesC l ++ [.int .u8 x]) := by unfold Hid; rw [bytesC_append, numS_lo h0 hx]
    go_enter Try.func72, Try.ntmps72
    go_wp2_with (at_builtin; refine wpList_pushM _ rfl _ _ 53 rfl base 5 i0 _ 1 1 Try.underlying53 hi hz0 hz1 hz2 rfl (by decide) _ _ _ rfl hown 1 [.int .u8 x] rfl rfl (by decide) (by simp [Value.oneCell']) (by unfold maxLen; omega) (by omega) (by omega) ?_)
    intro g cap w1 hown1 hg1 hat
    have Hat := hid hat
    clear hat
    go_wp2
    go_ret
    exact ⟨g, cap, by rw [en.out]; rfl, by rw [eb.out, en.out]; exact hown1, hg1, Hat.out.imp id (fun h => by omega)⟩
  · have ew := u8_in (128 + x % 128) (by omega) (by omega)
    have ew2 := u8_in (x / 128) (by omega) (by omega)
    have en : Hid ((numS x).length = 2) := by unfold Hid numS; rw [if_neg hx]; rfl
    have eb : Hid (bytesC (l ++ numS x) = bytesC l ++ [.int .u8 (128 + x % 128), .int .u8 (x / 128)]) := by unfold Hid; rw [bytesC_append, numS_hi (by omega) h1]
    go_enter Try.func72, Try.ntmps72
    go_wp2_with (at_builtin; refine wpList_pushM _ rfl _ _ 53 rfl base 5 i0 _ 1 1 Try.underlying53 hi hz0 hz1 hz2 rfl (by decide) _ _ _ rfl hown 2 [.int .u8 (128 + x % 128), .int .u8 (x / 128)] rfl rfl (by decide) (by simp [Value.oneCell']) (by unfold maxLen; omega) (by omega) (by omega) ?_)
    intro g cap w1 hown1 hg1 hat
    have Hat := hid hat
    clear hat
    go_wp2
    go_ret
    exact ⟨g, cap, by rw [en.out]; rfl, by rw [eb.out, en.out]; exact hown1, hg1, Hat.out.imp id (fun h => by omega)⟩

def fstN (ps : List (Int × Int)) (k : Nat) : Int := (ps.getD k (0, 0)).1
def sndN (ps : List (Int × Int)) (k : Nat) : Int := (ps.getD k (0, 0)).2
def lastN (ps : List (Int × Int)) (k : Nat) : Int := if k = 0 then 0 else sndN ps (k - 1)
theorem lastN_succ (ps : List (Int × Int)) (k : Nat) : lastN ps (k + 1) = sndN ps k := by simp [lastN]
def Chain (ps : List (Int × Int)) : Prop := ∀ k, k < ps.length → 0 ≤ lastN ps k ∧ lastN ps k + 1 ≤ fstN ps k ∧ fstN ps k ≤ sndN ps k ∧ sndN ps k ≤ 300
theorem fst_lo (ps qs : List (Int × Int)) (k : Nat) (h : k < ps.length) : fstN (ps ++ qs) k = fstN ps k := by simp [fstN, List.getD, List.getElem?_append_left h]
theorem snd_lo (ps qs : List (Int × Int)) (k : Nat) (h : k < ps.length) : sndN (ps ++ qs) k = sndN ps k := by simp [sndN, List.getD, List.getElem?_append_left h]
theorem last_lo (ps qs : List (Int × Int)) (k : Nat) (h : k ≤ ps.length) : lastN (ps ++ qs) k = lastN ps k := by
  unfold lastN
  split
  · rfl
  · rw [snd_lo _ _ _ (by omega)]
theorem chain_snoc (ps : List (Int × Int)) (a b : Int) (h : Chain ps) (h0 : 0 ≤ lastN ps ps.length) (h1 : lastN ps ps.length + 1 ≤ a) (h2 : a ≤ b) (h3 : b ≤ 300) : Chain (ps ++ [(a, b)]) := by
  intro k hk
  rw [List.length_append] at hk
  rw [last_lo _ _ _ (by simp at hk; omega)]
  by_cases e : k < ps.length
  · rw [fst_lo _ _ _ e, snd_lo _ _ _ e]; exact h k e
  · obtain rfl : k = ps.length := by simp at hk; omega
    simpa [fstN, sndN] using ⟨h0, h1, h2, h3⟩
theorem chain_init (ps : List (Int × Int)) (a b : Int) (h : Chain (ps ++ [(a, b)])) : Chain ps ∧ 0 ≤ lastN ps ps.length ∧ lastN ps ps.length + 1 ≤ a ∧ a ≤ b ∧ b ≤ 300 := by
  refine ⟨fun k hk => ?_, ?_⟩
  · have := h k (by simp; omega)
    rwa [last_lo _ _ _ (by omega), fst_lo _ _ _ hk, snd_lo _ _ _ hk] at this
  · have := h ps.length (by simp)
    rw [last_lo _ _ _ (Nat.le_refl _)] at this
    simpa [fstN, sndN] using this
theorem chain_rg (l : List Int) (hl : isSetS 300 l = true) : ∀ k, k ≤ l.length → Chain (rgTo l k) := by
  intro k
  induction k with
  | zero => intro _ j hj; simp [rgTo] at hj
  | succ k ih =>
    intro hk
    have h := ih (by omega)
    have hx := isSetS_at hl (k := k) (by omega)
    rw [rgTo_succ l k (by omega)]
    rcases List.eq_nil_or_concat (rgTo l k) with hq | ⟨qs, ⟨a, b⟩, hq⟩
    · rw [hq, stepR_nil]
      exact chain_snoc [] _ _ (fun j hj => by simp at hj) (by simp [lastN]) (by simp [lastN]; omega) (by omega) (by omega)
    · rw [List.concat_eq_append] at hq
      obtain ⟨h0, rfl⟩ := rgTo_b l k (by omega) qs a b hq
      have hlt := hx.2.2 h0
      rw [hq] at h ⊢
      obtain ⟨c1, c2, c3, c4, c5⟩ := chain_init _ _ _ h
      by_cases e : nth l (k - 1) + 1 = nth l k
      · rw [stepR_on _ _ _ _ e]; exact chain_snoc _ _ _ c1 c2 c3 (by omega) (by omega)
      · rw [stepR_new _ _ _ _ e]
        exact chain_snoc _ _ _ h (by simp [lastN, sndN]; omega) (by simp [lastN, sndN]; omega) (by omega) (by omega)
theorem chain_ranges {l : List Int} (hl : isSetS 300 l = true) : Chain (rangesS l) := chain_rg l hl _ (Nat.le_refl _)
theorem rgTo_len (l : List Int) : ∀ k, (rgTo l k).length ≤ k := by
  intro k
  induction k with
  | zero => simp [rgTo]
  | succ k ih =>
    by_cases h : k < l.length
    · rw [rgTo_succ l k h]; have := stepR_len (rgTo l k) (nth l k); omega
    · unfold rgTo at *; rw [List.take_of_length_le (by omega)] at *; omega
def pkTo (ps : List (Int × Int)) : Nat → List UInt8
  | 0 => []
  | k + 1 => pkTo ps k ++ numS (fstN ps k - lastN ps k - 1) ++ numS (sndN ps k - fstN ps k)
def packS (l : List Int) : List UInt8 := pkTo (rangesS l) (rangesS l).length
theorem pkTo_len (ps : List (Int × Int)) : ∀ k, (pkTo ps k).length ≤ 4 * k
  | 0 => by simp [pkTo]
  | k + 1 => by
    have := pkTo_len ps k
    have := numS_len (fstN ps k - lastN ps k - 1)
    have := numS_len (sndN ps k - fstN ps k)
    simp only [pkTo, List.length_append]; omega
theorem flat_at : ∀ (ps : List (Int × Int)) (k : Nat), k < ps.length → (flat ps)[k * 2]? = some (.int .i64 (fstN ps k)) ∧ (flat ps)[k * 2 + 1]? = some (.int .i64 (sndN ps k))
  | [], k, h => by simp at h
  | p :: ps, 0, _ => by simp [flat, fstN, sndN]
  | p :: ps, k + 1, h => by
    have := flat_at ps k (by simpa using h)
    rw [show (k + 1) * 2 = k * 2 + 1 + 1 by omega]
    simpa [flat, fstN, sndN] using this
theorem RdP.len {w : World} {A : Option Addr} {n c : Nat} {ps : List (Int × Int)} (h : RdP w A n c ps) : ps.length = n := by have := h.1; rw [flat_len] at this; omega
theorem RdP.at_ {w : World} {A : Option Addr} {n c : Nat} {ps : List (Int × Int)} (h : RdP w A n c ps) {k : Nat} (hk : k < n) :
    ∃ ad, A = some ad ∧ w.cell? (ad.add (k * 2)) = some (.int .i64 (fstN ps k)) ∧ w.cell? ⟨(ad.add (k * 2)).block, (ad.add (k * 2)).off + 1, none⟩ = some (.int .i64 (sndN ps k)) := by
  obtain ⟨ad, hA, hc⟩ := h.2.2.2 (by omega)
  have hf := flat_at ps k (by rw [h.len]; exact hk)
  refine ⟨ad, hA, hc _ _ hf.1, ?_⟩
  have h2 := hc _ _ hf.2
  rw [← add_add] at h2
  exact h2
theorem RdP.ext {w w' : World} {A : Option Addr} {n c : Nat} {ps : List (Int × Int)} (h : RdP w A n c ps) (hb : Ext w w') : RdP w' A n c ps := Rd.ext h hb
def GiveB (l : List UInt8) (w : World) (e : Ending) (w' : World) : Prop := ∃ A n c, e = .returned (.slice A n c) ∧ RdB w' A n c l ∧ Ext w w' ∧ Fr w.heap.size A
def GiveBy (l : List UInt8) (x : Int) (w : World) (e : Ending) (w' : World) : Prop := ∃ A n c, e = .returned (.tuple #[.slice A n c, .int .i64 x]) ∧ RdB w' A n c l ∧ Ext w w' ∧ Fr w.heap.size A

set_option maxRecDepth 100000 in
set_option maxHeartbeats 1000000 in
theorem pack_any (A : Option Addr) (n c : Nat) (l : List Int) (w : World) (hs : RdI w A n c l) (hn : n ≤ 10000) (h1 : isSetS 300 l = true) :
    Calls Try.prog 67 #[.slice A n c] w (GiveB (packS l) w) := by
  have hsm : Small l := fun y hy => by have := isSetS_mem h1 hy; omega
  have Hch := hid (chain_ranges h1)
  have hrl := rgTo_len l l.length
  rw [hs.len] at hrl
  clear h1
  go_enter Try.func67, Try.ntmps67
  go_wp2_with fail
  refine (ranges_any _ _ _ _ _ hs hn hsm).mono ?_
  rintro e W ⟨C, m, cm, rfl, hr, hx, -⟩
  have Hrl := hid hr.len
  have hm : m ≤ 10000 := by rw [← Hrl.out]; unfold rangesS; rw [hs.len]; omega
  clear hrl hs hsm
  go_wp2_with fail
  go_loopw [3, 4, 10] (fun v last i wr => ∃ k j : Nat, k ≤ m ∧ j ≤ 4 * k ∧ i = .int .i64 k ∧ last = .int .i64 (lastN (rangesS l) k) ∧ wr.ownsRow W.heap.size 5 1 v j (bytesC (pkTo (rangesS l) k)) ∧ Below W.heap.size W wr) (fun _ _ i _ => m - (intOf i).toNat)
  case atStart => exact ⟨0, 0, by omega, by omega, rfl, rfl, World.ownsRow_nil _ _ _ _, Below.refl _ _⟩
  case round =>
    obtain ⟨k, j, hk, hj, rfl, rfl, hown, hb⟩ := hrel
    have hbs := hb.size
    by_cases hlt : k < m
    · have hr1 := hr.ext (w' := wr) hb
      obtain ⟨ad, rfl, hc, hd⟩ := hr1.at_ hlt
      have hch := Hch.out k (by rw [Hrl.out]; exact hlt)
      obtain ⟨A0, c0, rfl, -⟩ := own_form hown
      go_wp2_with fail
      refine (number_any W.heap.size _ _ _ _ _ _ (hown.alloc _) (by simp; omega) (by omega) (by omega) (by omega)).mono ?_
      rintro e w1 ⟨g, cap, rfl, hown1, hg1, hat1⟩
      have Hat := hid hat1
      clear hat1
      have hne : some wr.heap.size ≠ (Value.slice A0 j c0).ownBlock := fun e => by have := (hown.lt _ e.symm).2; omega
      have x0 : w1.cell? ⟨wr.heap.size, 0, none⟩ = some (.int .i64 (fstN (rangesS l) k)) := by rw [hg1.cell_far _ (by simp) hne]; go_simp
      have x1 : w1.cell? ⟨wr.heap.size, 1, none⟩ = some (.int .i64 (sndN (rangesS l) k)) := by rw [hg1.cell_far _ (by simp) hne]; go_simp
      have l1 := numS_len (fstN (rangesS l) k - lastN (rangesS l) k - 1)
      have l2 := numS_len (sndN (rangesS l) k - fstN (rangesS l) k)
      have z1 := hg1.size
      simp at z1
      have b1 := hid (below_push (Below.alloc hb hbs _) (hown.alloc _) hg1 (by simp; omega))
      generalize hL1 : (numS (fstN (rangesS l) k - lastN (rangesS l) k - 1)).length = L1 at *
      have HL1 := hid hL1
      have h0w : wr.heap.size < w1.heap.size := by omega
      have Hne := hid hne
      clear hL1 hg1 hne hb hown hr1
      go_wp2_with fail
      refine (number_any W.heap.size _ _ _ _ _ _ hown1 (by omega) (by omega) (by omega) (by omega)).mono ?_
      rintro e w2 ⟨g2, cap2, rfl, hown2, hg2, -⟩
      have hne : some wr.heap.size ≠ (Value.slice (some ⟨g, 0, none⟩) (j + L1) cap).ownBlock := by
        intro e
        have e' : wr.heap.size = g := by simpa [Value.ownBlock] using e
        rcases Hat.out with h | h
        · exact Hne.out (by rw [h, e'])
        · simp at h; omega
      have x0' : w2.cell? ⟨wr.heap.size, 0, none⟩ = some (.int .i64 (fstN (rangesS l) k)) := by rw [hg2.cell_far _ h0w hne]; exact x0
      have x1' : w2.cell? ⟨wr.heap.size, 1, none⟩ = some (.int .i64 (sndN (rangesS l) k)) := by rw [hg2.cell_far _ h0w hne]; exact x1
      have b2 := hid (below_push b1.out hown1 hg2 (by omega))
      clear hg2 hown1 x0 x1 b1
      go_wp2_with fail
      go_roundw
      case rel => exact ⟨k + 1, _, by omega, by omega, by go_num, by rw [lastN_succ], hown2, b2.out⟩
      case measure => simp [intOf]; omega
    · go_wp2
      obtain ⟨A1, c1, rfl, hcc⟩ := own_form hown
      go_ret
      obtain rfl : k = m := by omega
      exact ⟨A1, _, c1, rfl, by unfold packS; rw [Hrl.out]; exact Rd.of_own hown, hx.trans hb, (own_fresh hown).mono hx.size⟩
end Go.Proofs.Ytffcaoicokookaa
