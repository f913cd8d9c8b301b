import Derived.Test.YtffcaoicokookaaT14
namespace Go.Proofs.Ytffcaoicokookaa
open Go.RowKit
attribute [local go_sem ↓] Go.wp_at_zero Go.wp_at_succ
set_option linter.unusedVariables false
/-- 'out = append(out, xs...)', xs a slice that is not empty. -/
theorem wpList_appendRd {P : Program} (w : World) {ops : Array Oper} {rest : List Oper} {o : Oper} {a : Act} {Q : Exit → Act → World → Prop} (hgd : o.guard = none) (s x : Operand) (t : TypeId)
    (ho : o.op = .call { callee := .builtin .append, args := #[s, x], argTypes := #[t, t] })
    (base : Nat) (e : TypeId) (i : TypeInfo) (z : Value) (size bytes : Nat) (ht : P.underlying t = some (.slice e)) (hi : P.info? e = some i) (hz : i.zero = some z)
    (hsize : i.size = size) (hby : i.bytes = bytes) (hzs : z.cells.size = size) (hsz : 0 < size)
    (v : Value) (n : Nat) (xs : List Value) (hs : a.eval s = v) (hown : w.ownsRow base e size v n xs)
    (A : Option Addr) (m c : Nat) (es : List Value) (hx : a.eval x = .slice A m c) (hr : Rd w size A m c es) (hm : 0 < m) (h1 : ∀ u ∈ es, u.oneCell' = true)
    (h63 : n + m ≤ maxLen) (hbytes : (n + m) * bytes ≤ 140737488355328) (hbase : base ≤ w.heap.size)
    (h : ∀ g cap w', w'.ownsRow base e size (.slice (some ⟨g, 0, none⟩) (n + m) cap) (n + m) (xs ++ es) → w.grownBy w' v.ownBlock → (v.ownBlock = some g ∨ g = w.heap.size) →
      wpList P ops Q rest (a.put o.dst (.slice (some ⟨g, 0, none⟩) (n + m) cap)) w') : wpList P ops Q (o :: rest) a w := by
  obtain ⟨ad, rfl, hc⟩ := hr.2.2.2 hm
  exact wpList_append_lies _ hgd s x t ho base e i z size bytes ht hi hz hsize hby hzs hsz v n xs hs hown ad m c es hx hr.1 hc h1 hm h63 hbytes hbase _ rfl fun g cap w' h1 h2 h3 _ => h g cap w' h1 h2 h3
theorem step_appendRd {P : Program} (w : World) {ops : Array Oper} {o : Oper} {a : Act} {K : Act → World → Prop} {Q : Exit → Act → World → Prop} {E : Prop} (hgd : o.guard = none) (s x : Operand) (t : TypeId)
    (ho : o.op = .call { callee := .builtin .append, args := #[s, x], argTypes := #[t, t] })
    (base : Nat) (e : TypeId) (i : TypeInfo) (z : Value) (size bytes : Nat) (ht : P.underlying t = some (.slice e)) (hi : P.info? e = some i) (hz : i.zero = some z)
    (hsize : i.size = size) (hby : i.bytes = bytes) (hzs : z.cells.size = size) (hsz : 0 < size)
    (v : Value) (n : Nat) (xs : List Value) (hs : a.eval s = v) (hown : w.ownsRow base e size v n xs)
    (A : Option Addr) (m c : Nat) (es : List Value) (hx : a.eval x = .slice A m c) (hr : Rd w size A m c es) (hm : 0 < m) (h1 : ∀ u ∈ es, u.oneCell' = true)
    (h63 : n + m ≤ maxLen) (hbytes : (n + m) * bytes ≤ 140737488355328) (hbase : base ≤ w.heap.size)
    (h : ∀ g cap w', w'.ownsRow base e size (.slice (some ⟨g, 0, none⟩) (n + m) cap) (n + m) (xs ++ es) → w.grownBy w' v.ownBlock →
      K (a.put o.dst (.slice (some ⟨g, 0, none⟩) (n + m) cap)) w') :
    if Region.wanted o (yielded ops a.tmps) = true then Oper.wp P o a w K Q else E := by
  obtain ⟨ad, rfl, hc⟩ := hr.2.2.2 hm
  exact step_append_lies w hgd s x t ho base e i z size bytes ht hi hz hsize hby hzs hsz v n xs hs hown ad m c es hx hr.1 hc h1 hm h63 hbytes hbase _ rfl fun g cap w' h1 h2 _ _ => h g cap w' h1 h2

theorem numS_pos (x : Int) : 0 < (numS x).length := by unfold numS; split <;> simp
/-- A block that has just been made reads as a slice. -/
theorem Rd.new_ (w : World) (cs : List Value) (t : TypeId) (n : Nat) (hn : cs.length = n) (hm : n ≤ maxLen) : Rd (w.alloc (.cells cs.toArray t)) 1 (some ⟨w.heap.size, 0, none⟩) n n cs :=
  ⟨by omega, Nat.le_refl _, hm, fun _ => ⟨_, rfl, World.news_of_block (cs := cs.toArray) (heap_alloc_new w _)⟩⟩

set_option maxRecDepth 100000 in
set_option maxHeartbeats 1000000 in
theorem rnumber_any (x : Int) (w : World) (h0 : 0 ≤ x) (h1 : x ≤ 1000) : Calls Try.prog 69 #[.int .i64 x] w (GiveB (numS x) w) := by
  by_cases hx : x < 128
  · have ew := u8_in x h0 (by omega)
    have eb : Hid (bytesC (numS x) = [.int .u8 x]) := numS_lo h0 hx
    go_enter Try.func69, Try.ntmps69
    go_wp2
    go_ret
    exact ⟨_, _, _, rfl, by unfold RdB; rw [eb.out]; exact Rd.new_ w [.int .u8 x] 5 1 rfl (by decide), (Ext.refl w).alloc_right _, fun ad e => by injection e with e; subst e; simp⟩
  · have ew := u8_in (128 + x % 128) (by omega) (by omega)
    have ew2 := u8_in (x / 128) (by omega) (by omega)
    have eb : Hid (bytesC (numS x) = [.int .u8 (128 + x % 128), .int .u8 (x / 128)]) := numS_hi (by omega) h1
    go_enter Try.func69, Try.ntmps69
    go_wp2
    go_ret
    exact ⟨_, _, _, rfl, by unfold RdB; rw [eb.out]; exact Rd.new_ w [.int .u8 (128 + x % 128), .int .u8 (x / 128)] 5 2 rfl (by decide), (Ext.refl w).alloc_right _, fun ad e => by injection e with e; subst e; simp⟩

set_option maxRecDepth 100000 in
set_option maxHeartbeats 1000000 in
theorem rRanges_no (A : Option Addr) (n c : Nat) (l : List Int) (w : World) (hs : RdI w A n c l) (h1 : isSetS 300 l = false) :
    Calls Try.prog 25 #[.slice A n c] w (GivePN [] 1 w) := by
  go_enter Try.func25, Try.ntmps25
  go_wp2_with fail
  refine (IsSet_any _ _ _ _ _ hs).mono ?_
  rintro e w' ⟨rfl, k1, rfl⟩
  go_wp2
  go_ret2
  exact ⟨_, _, _, rfl, Rd.none_ _ 2, Ext.drewN _ _, Fr.none_ _⟩
theorem Ranges_no (A : Option Addr) (n c : Nat) (l : List Int) (w : World) (hs : RdI w A n c l) (h1 : isSetS 300 l = false) :
    Calls Try.prog 24 #[.slice A n c] w (GivePN [] 1 w) := by
  go_enter Try.func24, Try.ntmps24
  go_wp2_with fail
  refine (isSet_any _ _ _ _ _ _ hs).mono ?_
  rintro e w' ⟨rfl, k1, rfl⟩
  go_wp2
  go_ret2
  exact ⟨_, _, _, rfl, Rd.none_ _ 2, Ext.drewN _ _, Fr.none_ _⟩
theorem Ranges_yes (A : Option Addr) (n c : Nat) (l : List Int) (w : World) (hs : RdI w A n c l) (hn : n ≤ 10000) (h1 : isSetS 300 l = true) :
    Calls Try.prog 24 #[.slice A n c] w (GivePN (rangesS l) 0 w) := by
  have hsm : Small l := fun y hy => by have := isSetS_mem h1 hy; omega
  go_enter Try.func24, Try.ntmps24
  go_wp2_with fail
  refine (isSet_any _ _ _ _ _ _ hs).mono ?_
  rintro e w' ⟨rfl, k1, rfl⟩
  go_wp2_with fail
  refine (ranges_any _ _ _ _ _ (hs.drewN _) hn hsm).mono ?_
  rintro e W ⟨C, m, cm, rfl, hr, hx, hf⟩
  go_wp2
  go_ret2
  exact ⟨_, _, _, rfl, hr, Ext.trans (Ext.drewN _ _) hx, hf⟩
theorem Pack_no (A : Option Addr) (n c : Nat) (l : List Int) (w : World) (hs : RdI w A n c l) (h1 : isSetS 300 l = false) :
    Calls Try.prog 45 #[.slice A n c] w (GiveBy [] 1 w) := by
  go_enter Try.func45, Try.ntmps45
  go_wp2_with fail
  refine (isSet_any _ _ _ _ _ _ hs).mono ?_
  rintro e w' ⟨rfl, k1, rfl⟩
  go_wp2
  go_ret2
  exact ⟨_, _, _, rfl, Rd.none_ _ 1, Ext.drewN _ _, Fr.none_ _⟩
theorem Pack_yes (A : Option Addr) (n c : Nat) (l : List Int) (w : World) (hs : RdI w A n c l) (hn : n ≤ 10000) (h1 : isSetS 300 l = true) :
    Calls Try.prog 45 #[.slice A n c] w (GiveBy (packS l) 0 w) := by
  go_enter Try.func45, Try.ntmps45
  go_wp2_with fail
  refine (isSet_any _ _ _ _ _ _ hs).mono ?_
  rintro e w' ⟨rfl, k1, rfl⟩
  go_wp2_with fail
  refine (pack_any _ _ _ _ _ (hs.drewN _) hn h1).mono ?_
  rintro e W ⟨C, m, cm, rfl, hr, hx, hf⟩
  go_wp2
  go_ret2
  exact ⟨_, _, _, rfl, hr, Ext.trans (Ext.drewN _ _) hx, hf⟩
theorem rPack_no (A : Option Addr) (n c : Nat) (l : List Int) (w : World) (hs : RdI w A n c l) (h1 : isSetS 300 l = false) :
    Calls Try.prog 46 #[.slice A n c] w (GiveBy [] 1 w) := by
  go_enter Try.func46, Try.ntmps46
  go_wp2_with fail
  refine (rRanges_no _ _ _ _ _ hs h1).mono ?_
  rintro e W ⟨C, m, cm, rfl, hr, hx, hf⟩
  go_wp2
  go_ret2
  exact ⟨_, _, _, rfl, Rd.none_ _ 1, hx, Fr.none_ _⟩

set_option maxRecDepth 100000 in
set_option maxHeartbeats 1000000 in
theorem rPack_yes (A : Option Addr) (n c : Nat) (l : List Int) (w : World) (hs : RdI w A n c l) (hn : n ≤ 10000) (h1 : isSetS 300 l = true) :
    Calls Try.prog 46 #[.slice A n c] w (GiveBy (packS l) 0 w) := by
  obtain ⟨i0, hi, hz0, hz1, hz2⟩ := info_parts Try.info5
  have Hch := hid (chain_ranges h1)
  have hrl := rgTo_len l l.length
  rw [hs.len] at hrl
  go_enter Try.func46, Try.ntmps46
  go_wp2_with fail
  refine (rRanges_yes _ _ _ _ _ hs hn h1).mono ?_
  rintro e W ⟨C, m, cm, rfl, hr, hx, -⟩
  have Hrl := hid hr.len
  have hm : m ≤ 10000 := by rw [← Hrl.out]; unfold rangesS; rw [hs.len]; omega
  clear hrl hs h1
  go_wp2_with fail
  go_loopw [6, 7, 8] (fun v last i wr => ∃ k j : Nat, k ≤ m ∧ j ≤ 4 * k ∧ i = .int .i64 k ∧ last = .int .i64 (lastN (rangesS l) k) ∧ wr.ownsRow W.heap.size 5 1 v j (bytesC (pkTo (rangesS l) k)) ∧ Below W.heap.size W wr) (fun _ _ i _ => m - (intOf i).toNat)
  case atStart => exact ⟨0, 0, by omega, by omega, rfl, rfl, World.ownsRow_nil _ _ _ _, Below.refl _ _⟩
  case round =>
    obtain ⟨k, j, hk, hj, rfl, rfl, hown, hb⟩ := hrel
    have hbs := hb.size
    by_cases hlt : k < m
    · have hr1 := hr.ext (w' := wr) hb
      obtain ⟨ad, rfl, hc, hd⟩ := hr1.at_ hlt
      have hch := Hch.out k (by rw [Hrl.out]; exact hlt)
      obtain ⟨A0, c0, rfl, -⟩ := own_form hown
      have l1 := numS_len (fstN (rangesS l) k - lastN (rangesS l) k - 1)
      have l2 := numS_len (sndN (rangesS l) k - fstN (rangesS l) k)
      have p1 := numS_pos (fstN (rangesS l) k - lastN (rangesS l) k - 1)
      have p2 := numS_pos (sndN (rangesS l) k - fstN (rangesS l) k)
      go_wp2_with fail
      refine (rnumber_any _ _ (by omega) (by omega)).mono ?_
      rintro e w1 ⟨D, q, cq, rfl, hq, hx1, -⟩
      have Hql := hid hq.len
      have q2 : q ≤ 2 := by rw [← Hql.out]; exact l1
      have q0 : 0 < q := by rw [← Hql.out]; exact p1
      have b1 : Below W.heap.size W w1 := hb.trans (Below.mono hx1 hbs)
      have z1 := hx1.size
      have own1 := hx1.own hown
      clear hown hb hr1
      go_wp2_with (at_builtin; refine wpList_appendRd _ rfl _ _ 53 rfl W.heap.size 5 i0 _ 1 1 Try.underlying53 hi hz0 hz1 hz2 rfl (by decide) _ _ _ rfl own1 _ _ _ _ rfl hq (by omega) (bytesC_one _) (by unfold maxLen; omega) (by omega) (by omega) ?_)
      intro g cap w2 own2 hg2 _
      have b2 := below_push b1 own1 hg2 (by omega)
      have hzz := b2.size
      rw [← bytesC_append] at own2
      have HS : Hid (∀ w', Below W.heap.size W w' → (w'.cell? (ad.add (k * 2)) = some (.int .i64 (fstN (rangesS l) k)) ∧ w'.cell? ⟨(ad.add (k * 2)).block, (ad.add (k * 2)).off + 1, none⟩ = some (.int .i64 (sndN (rangesS l) k)) ∧ Below W.heap.size W w')) := fun w' h => by
        obtain ⟨ad', e, h1, h2⟩ := (hr.ext (w' := w') h).at_ hlt
        injection e with e
        subst e
        exact ⟨h1, h2, h⟩
      have ew := IntWalk.i64_in (sndN (rangesS l) k - fstN (rangesS l) k) (by omega)
      have i1 : (0 : Int) ≤ (k : Int) := by omega
      have i2 : (k : Int) < (m : Int) := by omega
      clear hg2 own1 b1 hq hx1
      go_wp2_with fail
      go_region_held3 (fun w' => w'.cell? (ad.add (k * 2)) = some (.int .i64 (fstN (rangesS l) k)) ∧ w'.cell? ⟨(ad.add (k * 2)).block, (ad.add (k * 2)).off + 1, none⟩ = some (.int .i64 (sndN (rangesS l) k)) ∧ Below W.heap.size W w')
        ((first | exact HS.out _ b2.drew | (go_split_ands; exact HS.out _ (Below.trans (by assumption) (Below.mono hx3 (by simp; omega)))) | (go_split_ands; exact HS.out _ (below_push (by assumption) (hx3.own own2.drew) hgrow (by omega)))))
        ((first | (go_at_call 69; refine (rnumber_any _ _ (by omega) (by omega)).mono ?_; rintro e w3 ⟨E, q', cq', rfl, hq', hx3, -⟩; have Hql' := hid hq'.len; have q2' : q' ≤ 2 := (by rw [← Hql'.out]; exact l2); have q0' : 0 < q' := (by rw [← Hql'.out]; exact p2); have hz3 := hx3.size; simp at hz3) | (refine step_appendRd _ (by rfl) _ _ _ (by rfl) W.heap.size 5 i0 _ 1 1 Try.underlying53 hi hz0 hz1 hz2 rfl (by decide) _ _ _ (by rfl) (hx3.own own2.drew) _ _ _ _ (by rfl) hq' q0' (bytesC_one _) (by unfold maxLen; omega) (by omega) (by omega) ?_; intro g' cap' w4 own4 hgrow)))
      have bel : Below W.heap.size W w4 := by rename_i hH; exact hH.2.2
      obtain ⟨-, c1, -⟩ := HS.out w4 bel
      go_wp2_with fail
      go_roundw
      case rel => exact ⟨k + 1, j + q + q', by omega, by omega, by go_num, by rw [lastN_succ], by rw [← bytesC_append] at own4; exact own4, bel⟩
      case measure => simp [intOf]; omega
    · go_wp2
      obtain ⟨A1, c1, rfl, hcc⟩ := own_form hown
      go_ret2
      obtain rfl : k = m := by omega
      exact ⟨A1, _, c1, rfl, by unfold packS; rw [Hrl.out]; exact Rd.of_own hown, hx.trans hb, (own_fresh hown).mono hx.size⟩
end Go.Proofs.Ytffcaoicokookaa
