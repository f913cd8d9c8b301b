/-
  Bytes of the reference.
-/
import Derived.Test.YtcgjhloiokpicaaMz
namespace Go.Proofs.Ytcgjhloiokpicaa
open Go.RowKit Go.Shelf
set_option linter.unusedVariables false
set_option linter.unusedSimpArgs false
theorem preE_len {size : Int} {x : En} (h : okE size x) (hs : 16 ≤ size ∧ size ≤ 256) : (preE x).length ≤ (x.blocks * size).toNat ∧ 8 ≤ (preE x).length := by
  obtain ⟨h1, h2⟩ := h
  rcases h2 with ⟨h3, h4⟩ | ⟨h3, h4, h5⟩
  · unfold preE
    rw [if_pos h3, if_pos h3]
    simp only [le4, List.length_append, List.length_cons, List.length_nil]
    have : 16 ≤ x.blocks * size := by
      have := Int.mul_le_mul h1 hs.1 (by omega) (by omega)
      omega
    omega
  · unfold preE
    rw [if_neg (by omega), if_neg (by omega)]
    simp only [le4, List.length_append, List.length_cons, List.length_nil, txt_len]
    have h6 : (x.s.size : Int) + 12 ≤ x.blocks * size := by
      rw [h5]
      unfold needS
      have := Int.lt_ediv_add_one_mul_self ((x.s.size : Int) + 12 + size - 1) (show 0 < size by omega)
      rw [Int.add_mul] at this
      omega
    omega
theorem entB_len {size : Int} {x : En} (h : okE size x) (hs : 16 ≤ size ∧ size ≤ 256) : (entB size x).length = (x.blocks * size).toNat := pad_len _ _ (preE_len h hs).1
theorem body_len {size : Int} (hs : 16 ≤ size ∧ size ≤ 256) : ∀ {l : List En} {b e : Int} {f f' : Bool}, Run size b f l e f' → ((bodyB size l).length : Int) = (e - b) * size
  | [], b, e, f, f', h => by have h1 : b = e := h.1; subst h1; simp [bodyB]
  | x :: l, b, e, f, f', ⟨h1, h2, h3, h4⟩ => by
    have ih := body_len hs h4
    rw [bodyB, List.length_append, entB_len h2 hs]
    have h5 : 0 ≤ x.blocks * size := Int.mul_nonneg (by have := h2.1; omega) (by omega)
    push_cast
    rw [ih, Int.toNat_of_nonneg h5]
    have : e - b = x.blocks + (e - (b + x.blocks)) := by omega
    rw [this, Int.add_mul]
theorem hd_len {size : Int} (hs : 16 ≤ size ∧ size ≤ 256) (l : List En) : ((hdB size l).length : Int) = size := by
  unfold hdB
  rw [pad_len _ _ (by simp [le4]; omega)]
  omega
/-- How long what lies ahead of an entry is. -/
theorem ahead_len {size : Int} (hs : 16 ≤ size ∧ size ≤ 256) {l : List En} (h : Good size l) {k : Nat} (hk : k ≤ l.length) : ((hdB size l ++ bodyB size (l.take k)).length : Int) = begN l k * size := by
  have hb := beg_good h
  rw [List.length_append]
  push_cast
  rw [hd_len hs]
  have h2 : ((bodyB size (l.take k)).length : Int) = (begN l k - 1) * size := by
    rcases Nat.lt_or_ge k l.length with hlt | hge
    · obtain ⟨e, fm, g1, _⟩ := good_at h hlt
      rw [body_len hs g1, hb.1 k hlt]
    · obtain rfl : k = l.length := by omega
      obtain ⟨e, g1, g2⟩ := h
      rw [List.take_length, body_len hs g1, hb.2.1, end_run g1 g2]
  rw [h2, Int.sub_mul]
  omega
section
variable {P : Program} {ops : Array Oper} {Q : Exit → Act → World → Prop} {md : Region.Mode} {S : World → Prop} {last : Nat}
/-- Two may come up. -/
theorem J_two (i j : Nat) {o o' : Oper} {fuel : Nat} {listed : Array Bool} {a : Act} {w : World} (hi : ops[i]? = some o) (hj : ops[j]? = some o') (hr : Region.ready md ops listed = [i, j])
    (h : ∀ K, (∀ a' w', (i ≠ last → S w') ∧ wpAnyJ P md ops Q S last fuel (listed.setIfInBounds i true) a' w' → K a' w') → if Region.wanted o (yielded ops a.tmps) = true then Oper.wp P o a w K Q else K (a.put o.dst undef) w)
    (h' : ∀ K, (∀ a' w', (j ≠ last → S w') ∧ wpAnyJ P md ops Q S last fuel (listed.setIfInBounds j true) a' w' → K a' w') → if Region.wanted o' (yielded ops a.tmps) = true then Oper.wp P o' a w K Q else K (a.put o'.dst undef) w) : wpAnyJ P md ops Q S last (fuel + 1) listed a w := by
  refine ⟨fun h0 => absurd (hr ▸ h0) (by simp), fun k hk => ?_⟩
  rw [hr, List.mem_cons, List.mem_singleton] at hk
  rcases hk with rfl | rfl
  · have h1 := h _ (fun _ _ h => h)
    unfold wpOp
    simp only [hi]
    split
    · rename_i hw; rw [if_pos hw] at h1; exact .inl h1
    · rename_i hw; rw [if_neg hw] at h1; exact h1
  · have h1 := h' _ (fun _ _ h => h)
    unfold wpOp
    simp only [hj]
    split
    · rename_i hw; rw [if_pos hw] at h1; exact .inl h1
    · rename_i hw; rw [if_neg hw] at h1; exact h1
end
theorem filledI_any (u : World) (v : Value) (l : List Int) (m : Nat) (n : Int) (w : World) (hx : Ext u w) (hm : m = l.length) (hown : w.ownsRow u.heap.size 5 1 v m (bys l)) (h0 : 0 ≤ n) (hn : n ≤ 2000000) (hl : l.length ≤ 2000000) : Calls Try.prog 53 #[v, .int .i64 n] w fun e w' => ∃ v', e = .returned v' ∧ w'.ownsRow u.heap.size 5 1 v' (pad l n.toNat).length (bys (pad l n.toNat)) ∧ Ext u w' := by
  subst hm
  have := filled_any u v l n.toNat w hx hown (by omega) hl
  rwa [show ((n.toNat : Nat) : Int) = n by omega] at this
/-- A row of bytes that has just been laid. -/
theorem own_bys (W : World) (l : List Int) {B : Nat} (hB : B ≤ W.heap.size) (n : Nat) (hn : l.length = n) (hm : n ≤ 1000) : (W.alloc (.cells (bys l).toArray 5)).ownsRow B 5 1 (.slice (some ⟨W.heap.size, 0, none⟩) n n) n (bys l) := by
  have := World.ownsRow_lit (e := 5) (base := B) (size := 1) W (bys l).toArray n hB (by unfold maxLen; omega) (by simp [bys_len, hn])
  simpa using this
theorem four_own (u w : World) (n : Int) (hx : Ext u w) (h0 : 0 ≤ n) (h1 : n ≤ 2147483647) : Calls Try.prog 54 #[.int .i64 n] w fun e w' => ∃ p : Nat, e = .returned (.slice (some ⟨p, 0, none⟩) 4 4) ∧ w'.ownsRow u.heap.size 5 1 (.slice (some ⟨p, 0, none⟩) 4 4) 4 (bys (le4 n)) ∧ Ext w w' := by
  refine (four_any n w h0 h1).mono ?_
  rintro e w' ⟨rfl, rfl⟩
  exact ⟨_, rfl, own_bys w (le4 n) hx.size 4 rfl (by decide), (Ext.refl w).alloc_right _⟩
set_option maxRecDepth 100000 in
set_option maxHeartbeats 4000000 in
theorem rBytes_any (size : Int) (r : Nat) (v : Value) (l : List En) (w : World) (h : RA w r size v l) (hG : Good size l) (hs1 : 16 ≤ size) (hs2 : size ≤ 256) : Calls Try.prog 22 #[.pointer (some ⟨r, 0, none⟩)] w fun e w' => ∃ v2, e = .returned v2 ∧ w'.ownsRow w.heap.size 5 1 v2 (fileB size l).length (bys (fileB size l)) ∧ Ext w w' := by
  obtain ⟨i0, hi0, hz0, hz1, hz2⟩ := info_parts infoU8
  have gf := good_facts hG
  obtain ⟨hbk, hbe, hbb⟩ := beg_good hG
  have hBl := hid (fun w' (hx : Ext w w') => blocks_any size r v l w' (h.ext hx) (fun k hk => by have := hbb k hk; omega))
  rw [hbe] at hBl
  have hE0 : 0 ≤ endI l := by have := gf.2.2.2; omega
  have hE1 : endI l ≤ 2147483647 := by have := gf.2.2.2; omega
  generalize hEE : endI l = E at *
  have c0 := h.c0
  have c1 := h.c1
  obtain ⟨A, c, rfl, hr⟩ := h.rd
  have hmx := Rd.max hr
  have lg := h.lt
  replace hr := hid hr
  go_enter Try.func22, Try.ntmps22
  go_upto_region 1 with fail
  go_cut [3] (fun o wx => ∃ vo, o = vo ∧ Hid (wx.ownsRow w.heap.size 5 1 vo (hdB size l).length (bys (hdB size l))) ∧ Hid (Ext w wx))
  case first =>
    have I0 : ∀ w', Ext w w' → (fun w' : World => w'.cell? ⟨r, 0, none⟩ = some (.int .i64 size)) w' := fun w' hx => hx.cell c0
    have hx_w1 : Hid (Ext w w.drew) := (Ext.refl w).drew_right
    have hwa : IntKind.u8.wrap size = size % 256 := IntKind.wrap_u8 _
    have hwb : IntKind.u8.wrap (size / 256) = size / 256 % 256 := IntKind.wrap_u8 _
    refine region_J (fun w' : World => w'.cell? ⟨r, 0, none⟩ = some (.int .i64 size)) 22 (by kernel_rfl) ?_
    generalize w.drew = w1 at *
    refine J_takeO 0 (v := ?va0) rfl (by kernel_rfl) (by kernel_rfl) (by kernel_rfl) (by kernel_rfl) (fun _ _ _ h => h) (Or.inl ⟨by rfl, ?ya0⟩) (I0 _ hx_w1.out) ?ra0
    case ya0 => (intro w hSw; obtain _ := hSw; (go_simp; with_reducible rfl))
    simp only [Act.put, List.getElem_toArray, List.getElem_cons_zero, List.getElem_cons_succ, List.setIfInBounds_toArray, List.set_cons_zero, List.set_cons_succ]
    refine J_takeO 3 (v := ?va3) rfl (by kernel_rfl) (by kernel_rfl) (by kernel_rfl) (by kernel_rfl) (fun _ _ _ h => h) (Or.inl ⟨by rfl, ?ya3⟩) (I0 _ hx_w1.out) ?ra3
    case ya3 => (intro w hSw; obtain _ := hSw; (go_simp; with_reducible rfl))
    simp only [Act.put, List.getElem_toArray, List.getElem_cons_zero, List.getElem_cons_succ, List.setIfInBounds_toArray, List.set_cons_zero, List.set_cons_succ]
    refine J_takeO 4 (v := ?va4) rfl (by kernel_rfl) (by kernel_rfl) (by kernel_rfl) (by kernel_rfl) (fun _ _ _ h => h) (Or.inl ⟨by rfl, ?ya4⟩) (I0 _ hx_w1.out) ?ra4
    case ya4 => (intro w hSw; obtain _ := hSw; (go_simp; with_reducible rfl))
    simp only [Act.put, List.getElem_toArray, List.getElem_cons_zero, List.getElem_cons_succ, List.setIfInBounds_toArray, List.set_cons_zero, List.set_cons_succ]
    refine J_takeO 5 (v := ?va5) rfl (by kernel_rfl) (by kernel_rfl) (by kernel_rfl) (by kernel_rfl) (fun _ _ _ h => h) (Or.inl ⟨by rfl, ?ya5⟩) (I0 _ hx_w1.out) ?ra5
    case ya5 => (intro w hSw; obtain _ := hSw; (go_simp; with_reducible rfl))
    simp only [Act.put, List.getElem_toArray, List.getElem_cons_zero, List.getElem_cons_succ, List.setIfInBounds_toArray, List.set_cons_zero, List.set_cons_succ]
    refine J_takeO 6 (v := ?va6) rfl (by kernel_rfl) (by kernel_rfl) (by kernel_rfl) (by kernel_rfl) (fun _ _ _ h => h) (Or.inl ⟨by rfl, ?ya6⟩) (I0 _ hx_w1.out) ?ra6
    case ya6 => (intro w hSw; obtain _ := hSw; (go_simp; with_reducible rfl))
    simp only [Act.put, List.getElem_toArray, List.getElem_cons_zero, List.getElem_cons_succ, List.setIfInBounds_toArray, List.set_cons_zero, List.set_cons_succ]
    refine J_takeO 7 (v := ?va7) rfl (by kernel_rfl) (by kernel_rfl) (by kernel_rfl) (by kernel_rfl) (fun _ _ _ h => h) (Or.inl ⟨by rfl, ?ya7⟩) (I0 _ hx_w1.out) ?ra7
    case ya7 => (intro w hSw; obtain _ := hSw; (go_simp; with_reducible rfl))
    simp only [Act.put, List.getElem_toArray, List.getElem_cons_zero, List.getElem_cons_succ, List.setIfInBounds_toArray, List.set_cons_zero, List.set_cons_succ]
    refine J_takeO 8 (v := ?va8) rfl (by kernel_rfl) (by kernel_rfl) (by kernel_rfl) (by kernel_rfl) (fun _ _ _ h => h) (Or.inl ⟨by rfl, ?ya8⟩) (I0 _ hx_w1.out) ?ra8
    case ya8 => (intro w hSw; obtain _ := hSw; (go_simp; with_reducible rfl))
    simp only [Act.put, List.getElem_toArray, List.getElem_cons_zero, List.getElem_cons_succ, List.setIfInBounds_toArray, List.set_cons_zero, List.set_cons_succ]
    refine J_takeO 9 (v := ?va9) rfl (by kernel_rfl) (by kernel_rfl) (by kernel_rfl) (by kernel_rfl) (fun _ _ _ h => h) (Or.inl ⟨by rfl, ?ya9⟩) (I0 _ hx_w1.out) ?ra9
    case ya9 => (intro w hSw; obtain _ := hSw; (go_simp; with_reducible rfl))
    simp only [Act.put, List.getElem_toArray, List.getElem_cons_zero, List.getElem_cons_succ, List.setIfInBounds_toArray, List.set_cons_zero, List.set_cons_succ]
    refine J_takeO 10 (v := ?va10) rfl (by kernel_rfl) (by kernel_rfl) (by kernel_rfl) (by kernel_rfl) (fun _ _ _ h => h) (Or.inl ⟨by rfl, ?ya10⟩) (I0 _ hx_w1.out) ?ra10
    case ya10 => (intro w hSw; obtain _ := hSw; (go_simp; with_reducible rfl))
    simp only [Act.put, List.getElem_toArray, List.getElem_cons_zero, List.getElem_cons_succ, List.setIfInBounds_toArray, List.set_cons_zero, List.set_cons_succ]
    refine J_takeO 11 (v := ?va11) rfl (by kernel_rfl) (by kernel_rfl) (by kernel_rfl) (by kernel_rfl) (fun _ _ _ h => h) (Or.inl ⟨by rfl, ?ya11⟩) (I0 _ hx_w1.out) ?ra11
    case ya11 => (intro w hSw; obtain _ := hSw; (go_simp; with_reducible rfl))
    simp only [Act.put, List.getElem_toArray, List.getElem_cons_zero, List.getElem_cons_succ, List.setIfInBounds_toArray, List.set_cons_zero, List.set_cons_succ]
    refine J_takeO 12 (v := ?va12) rfl (by kernel_rfl) (by kernel_rfl) (by kernel_rfl) (by kernel_rfl) (fun _ _ _ h => h) (Or.inl ⟨by rfl, ?ya12⟩) (I0 _ hx_w1.out) ?ra12
    case ya12 => (intro w hSw; obtain _ := hSw; (go_simp; with_reducible rfl))
    simp only [Act.put, List.getElem_toArray, List.getElem_cons_zero, List.getElem_cons_succ, List.setIfInBounds_toArray, List.set_cons_zero, List.set_cons_succ]
    refine J_takeO 13 (v := ?va13) rfl (by kernel_rfl) (by kernel_rfl) (by kernel_rfl) (by kernel_rfl) (fun _ _ _ h => h) (Or.inl ⟨by rfl, ?ya13⟩) (I0 _ hx_w1.out) ?ra13
    case ya13 => (intro w hSw; obtain _ := hSw; (go_simp; with_reducible rfl))
    simp only [Act.put, List.getElem_toArray, List.getElem_cons_zero, List.getElem_cons_succ, List.setIfInBounds_toArray, List.set_cons_zero, List.set_cons_succ]
    refine J_takeO 16 (v := ?va16) rfl (by kernel_rfl) (by kernel_rfl) (by kernel_rfl) (by kernel_rfl) (fun _ _ _ h => h) (Or.inl ⟨by rfl, ?ya16⟩) (I0 _ hx_w1.out) ?ra16
    case ya16 => (intro w hSw; obtain _ := hSw; (go_simp; with_reducible rfl))
    simp only [Act.put, List.getElem_toArray, List.getElem_cons_zero, List.getElem_cons_succ, List.setIfInBounds_toArray, List.set_cons_zero, List.set_cons_succ]
    refine J_takeO 17 (v := ?va17) rfl (by kernel_rfl) (by kernel_rfl) (by kernel_rfl) (by kernel_rfl) (fun _ _ _ h => h) (Or.inl ⟨by rfl, ?ya17⟩) (I0 _ hx_w1.out) ?ra17
    case ya17 => (intro w hSw; obtain _ := hSw; (go_simp; with_reducible rfl))
    simp only [Act.put, List.getElem_toArray, List.getElem_cons_zero, List.getElem_cons_succ, List.setIfInBounds_toArray, List.set_cons_zero, List.set_cons_succ]
    refine J_takeO 18 (v := ?va18) rfl (by kernel_rfl) (by kernel_rfl) (by kernel_rfl) (by kernel_rfl) (fun _ _ _ h => h) (Or.inl ⟨by rfl, ?ya18⟩) (I0 _ hx_w1.out) ?ra18
    case ya18 => (intro w hSw; obtain _ := hSw; (go_simp; with_reducible rfl))
    simp only [Act.put, List.getElem_toArray, List.getElem_cons_zero, List.getElem_cons_succ, List.setIfInBounds_toArray, List.set_cons_zero, List.set_cons_succ]
    refine J_takeO 19 (v := ?va19) rfl (by kernel_rfl) (by kernel_rfl) (by kernel_rfl) (by kernel_rfl) (fun _ _ _ h => h) (Or.inl ⟨by rfl, ?ya19⟩) (I0 _ hx_w1.out) ?ra19
    case ya19 => (intro w hSw; obtain _ := hSw; (go_simp; with_reducible rfl))
    simp only [Act.put, List.getElem_toArray, List.getElem_cons_zero, List.getElem_cons_succ, List.setIfInBounds_toArray, List.set_cons_zero, List.set_cons_succ]
    refine J_two 1 14 rfl rfl (by kernel_rfl) (fun K hK => ?_) (fun K hK => ?_)
    · go_simp
      refine (hBl.out _ hx_w1.out).mono ?_
      rintro e w' ⟨rfl, rfl⟩
      refine hK _ _ ⟨fun _ => I0 _ hx_w1.out, ?_⟩
      clear hK K
      try simp only [Act.put, List.getElem_toArray, List.getElem_cons_zero, List.getElem_cons_succ, List.setIfInBounds_toArray, List.set_cons_zero, List.set_cons_succ]
      refine J_two 2 14 rfl rfl (by kernel_rfl) (fun K hK => ?_) (fun K hK => ?_)
      · go_simp
        refine (four_own w w1 E hx_w1.out hE0 hE1).mono ?_
        rintro e w2 ⟨pp, rfl, own_pp, hxx⟩
        have hx_w2 : Hid (Ext w w2) := hx_w1.out.trans hxx
        replace own_pp := hid own_pp
        clear hxx
        refine hK _ _ ⟨fun _ => I0 _ hx_w2.out, ?_⟩
        clear hK K
        try simp only [Act.put, List.getElem_toArray, List.getElem_cons_zero, List.getElem_cons_succ, List.setIfInBounds_toArray, List.set_cons_zero, List.set_cons_succ]
        refine J_one 14 rfl (by kernel_rfl) (fun K hK => ?_)
        go_simp
        refine hK _ _ ⟨fun _ => I0 _ (hx_w2.out.alloc_right _), ?_⟩
        clear hK K
        try simp only [Act.put, List.getElem_toArray, List.getElem_cons_zero, List.getElem_cons_succ, List.setIfInBounds_toArray, List.set_cons_zero, List.set_cons_succ]
        have news_qq : Hid (∀ (j : Nat) u, (bys [size % 256, size / 256 % 256])[j]? = some u → (w2.alloc (.cells #[.int .u8 (size % 256), .int .u8 (size / 256 % 256)] 5)).cell? ((⟨w2.heap.size, 0, none⟩ : Addr).add j) = some u) := World.news_of_block (heap_alloc_new w2 _)
        have hx_w3 : Hid (Ext w (w2.alloc (.cells #[.int .u8 (size % 256), .int .u8 (size / 256 % 256)] 5))) := hx_w2.out.alloc_right _
        replace own_pp : Hid (_) := own_pp.out.alloc (.cells #[.int .u8 (size % 256), .int .u8 (size / 256 % 256)] 5)
        generalize w2.heap.size = qq at *
        generalize (w2.alloc (.cells #[.int .u8 (size % 256), .int .u8 (size / 256 % 256)] 5)) = w3 at *
        refine J_one 15 rfl (by kernel_rfl) (fun K hK => ?_)
        refine step_append_lies _ rfl _ _ 27 rfl w.heap.size 5 i0 _ 1 1 Try.underlying27 hi0 hz0 hz1 hz2 rfl (by decide) (.slice (some ⟨pp, 0, none⟩) 4 4) 4 (bys (le4 E)) (by simp [Act.eval, Act.put]) own_pp.out ⟨qq, 0, none⟩ 2 2 (bys [size % 256, size / 256 % 256]) (by simp [Act.eval, Act.put]) (by rfl) (news_qq.out) (bys_one _) (by decide) (by decide) (by decide) hx_w3.out.size w3.heap.size rfl ?_
        intro gg cgg w4 own_gg hgr _ _
        have hx_w4 : Hid (Ext w w4) := ext_push hx_w3.out own_pp.out hgr
        rw [← bys_append] at own_gg
        replace own_gg := hid own_gg
        clear hgr
        refine hK _ _ ⟨fun _ => I0 _ hx_w4.out, ?_⟩
        clear hK K
        try simp only [Act.put, List.getElem_toArray, List.getElem_cons_zero, List.getElem_cons_succ, List.setIfInBounds_toArray, List.set_cons_zero, List.set_cons_succ]
        refine J_one 20 rfl (by kernel_rfl) (fun K hK => ?_)
        go_simp
        refine (filledI_any w _ (le4 E ++ [size % 256, size / 256 % 256]) (4 + 2) size w4 hx_w4.out rfl own_gg.out (by omega) (by omega) (by simp [le4])).mono ?_
        rintro e w5 ⟨v5, rfl, own5, hx5⟩
        refine hK _ _ ⟨fun _ => I0 _ hx5, ?_⟩
        clear hK K
        try simp only [Act.put, List.getElem_toArray, List.getElem_cons_zero, List.getElem_cons_succ, List.setIfInBounds_toArray, List.set_cons_zero, List.set_cons_succ]
        refine J_one 21 rfl (by kernel_rfl) (fun K hK => ?_)
        go_simp
        refine hK _ _ ⟨fun _ => I0 _ hx5, ?_⟩
        clear hK K
        try simp only [Act.put, List.setIfInBounds_toArray, List.set_cons_zero, List.set_cons_succ]
        refine J_done (by kernel_rfl) (OnlyOn.normal ?_)
        rw [← hEE] at own5
        replace own5 := hid own5
        replace hx5 := hid hx5
        go_wp2_with fail
        go_meet
        exact ⟨_, rfl, own5, hx5⟩
      · go_simp
        refine hK _ _ ⟨fun _ => I0 _ (hx_w1.out.alloc_right _), ?_⟩
        clear hK K
        try simp only [Act.put, List.getElem_toArray, List.getElem_cons_zero, List.getElem_cons_succ, List.setIfInBounds_toArray, List.set_cons_zero, List.set_cons_succ]
        have news_qq : Hid (∀ (j : Nat) u, (bys [size % 256, size / 256 % 256])[j]? = some u → (w1.alloc (.cells #[.int .u8 (size % 256), .int .u8 (size / 256 % 256)] 5)).cell? ((⟨w1.heap.size, 0, none⟩ : Addr).add j) = some u) := World.news_of_block (heap_alloc_new w1 _)
        have hx_w2 : Hid (Ext w (w1.alloc (.cells #[.int .u8 (size % 256), .int .u8 (size / 256 % 256)] 5))) := hx_w1.out.alloc_right _
        generalize w1.heap.size = qq at *
        generalize (w1.alloc (.cells #[.int .u8 (size % 256), .int .u8 (size / 256 % 256)] 5)) = w2 at *
        refine J_one 2 rfl (by kernel_rfl) (fun K hK => ?_)
        go_simp
        refine (four_own w w2 E hx_w2.out hE0 hE1).mono ?_
        rintro e w3 ⟨pp, rfl, own_pp, hxx⟩
        have hx_w3 : Hid (Ext w w3) := hx_w2.out.trans hxx
        replace own_pp := hid own_pp
        replace news_qq : Hid (_) := fun j u hu => hxx.cell (news_qq.out j u hu)
        clear hxx
        refine hK _ _ ⟨fun _ => I0 _ hx_w3.out, ?_⟩
        clear hK K
        try simp only [Act.put, List.getElem_toArray, List.getElem_cons_zero, List.getElem_cons_succ, List.setIfInBounds_toArray, List.set_cons_zero, List.set_cons_succ]
        refine J_one 15 rfl (by kernel_rfl) (fun K hK => ?_)
        refine step_append_lies _ rfl _ _ 27 rfl w.heap.size 5 i0 _ 1 1 Try.underlying27 hi0 hz0 hz1 hz2 rfl (by decide) (.slice (some ⟨pp, 0, none⟩) 4 4) 4 (bys (le4 E)) (by simp [Act.eval, Act.put]) own_pp.out ⟨qq, 0, none⟩ 2 2 (bys [size % 256, size / 256 % 256]) (by simp [Act.eval, Act.put]) (by rfl) (news_qq.out) (bys_one _) (by decide) (by decide) (by decide) hx_w3.out.size w3.heap.size rfl ?_
        intro gg cgg w4 own_gg hgr _ _
        have hx_w4 : Hid (Ext w w4) := ext_push hx_w3.out own_pp.out hgr
        rw [← bys_append] at own_gg
        replace own_gg := hid own_gg
        clear hgr
        refine hK _ _ ⟨fun _ => I0 _ hx_w4.out, ?_⟩
        clear hK K
        try simp only [Act.put, List.getElem_toArray, List.getElem_cons_zero, List.getElem_cons_succ, List.setIfInBounds_toArray, List.set_cons_zero, List.set_cons_succ]
        refine J_one 20 rfl (by kernel_rfl) (fun K hK => ?_)
        go_simp
        refine (filledI_any w _ (le4 E ++ [size % 256, size / 256 % 256]) (4 + 2) size w4 hx_w4.out rfl own_gg.out (by omega) (by omega) (by simp [le4])).mono ?_
        rintro e w5 ⟨v5, rfl, own5, hx5⟩
        refine hK _ _ ⟨fun _ => I0 _ hx5, ?_⟩
        clear hK K
        try simp only [Act.put, List.getElem_toArray, List.getElem_cons_zero, List.getElem_cons_succ, List.setIfInBounds_toArray, List.set_cons_zero, List.set_cons_succ]
        refine J_one 21 rfl (by kernel_rfl) (fun K hK => ?_)
        go_simp
        refine hK _ _ ⟨fun _ => I0 _ hx5, ?_⟩
        clear hK K
        try simp only [Act.put, List.setIfInBounds_toArray, List.set_cons_zero, List.set_cons_succ]
        refine J_done (by kernel_rfl) (OnlyOn.normal ?_)
        rw [← hEE] at own5
        replace own5 := hid own5
        replace hx5 := hid hx5
        go_wp2_with fail
        go_meet
        exact ⟨_, rfl, own5, hx5⟩
    · go_simp
      refine hK _ _ ⟨fun _ => I0 _ (hx_w1.out.alloc_right _), ?_⟩
      clear hK K
      try simp only [Act.put, List.getElem_toArray, List.getElem_cons_zero, List.getElem_cons_succ, List.setIfInBounds_toArray, List.set_cons_zero, List.set_cons_succ]
      have news_qq : Hid (∀ (j : Nat) u, (bys [size % 256, size / 256 % 256])[j]? = some u → (w1.alloc (.cells #[.int .u8 (size % 256), .int .u8 (size / 256 % 256)] 5)).cell? ((⟨w1.heap.size, 0, none⟩ : Addr).add j) = some u) := World.news_of_block (heap_alloc_new w1 _)
      have hx_w2 : Hid (Ext w (w1.alloc (.cells #[.int .u8 (size % 256), .int .u8 (size / 256 % 256)] 5))) := hx_w1.out.alloc_right _
      generalize w1.heap.size = qq at *
      generalize (w1.alloc (.cells #[.int .u8 (size % 256), .int .u8 (size / 256 % 256)] 5)) = w2 at *
      refine J_one 1 rfl (by kernel_rfl) (fun K hK => ?_)
      go_simp
      refine (hBl.out _ hx_w2.out).mono ?_
      rintro e w' ⟨rfl, rfl⟩
      refine hK _ _ ⟨fun _ => I0 _ hx_w2.out, ?_⟩
      clear hK K
      try simp only [Act.put, List.getElem_toArray, List.getElem_cons_zero, List.getElem_cons_succ, List.setIfInBounds_toArray, List.set_cons_zero, List.set_cons_succ]
      refine J_one 2 rfl (by kernel_rfl) (fun K hK => ?_)
      go_simp
      refine (four_own w w2 E hx_w2.out hE0 hE1).mono ?_
      rintro e w3 ⟨pp, rfl, own_pp, hxx⟩
      have hx_w3 : Hid (Ext w w3) := hx_w2.out.trans hxx
      replace own_pp := hid own_pp
      replace news_qq : Hid (_) := fun j u hu => hxx.cell (news_qq.out j u hu)
      clear hxx
      refine hK _ _ ⟨fun _ => I0 _ hx_w3.out, ?_⟩
      clear hK K
      try simp only [Act.put, List.getElem_toArray, List.getElem_cons_zero, List.getElem_cons_succ, List.setIfInBounds_toArray, List.set_cons_zero, List.set_cons_succ]
      refine J_one 15 rfl (by kernel_rfl) (fun K hK => ?_)
      refine step_append_lies _ rfl _ _ 27 rfl w.heap.size 5 i0 _ 1 1 Try.underlying27 hi0 hz0 hz1 hz2 rfl (by decide) (.slice (some ⟨pp, 0, none⟩) 4 4) 4 (bys (le4 E)) (by simp [Act.eval, Act.put]) own_pp.out ⟨qq, 0, none⟩ 2 2 (bys [size % 256, size / 256 % 256]) (by simp [Act.eval, Act.put]) (by rfl) (news_qq.out) (bys_one _) (by decide) (by decide) (by decide) hx_w3.out.size w3.heap.size rfl ?_
      intro gg cgg w4 own_gg hgr _ _
      have hx_w4 : Hid (Ext w w4) := ext_push hx_w3.out own_pp.out hgr
      rw [← bys_append] at own_gg
      replace own_gg := hid own_gg
      clear hgr
      refine hK _ _ ⟨fun _ => I0 _ hx_w4.out, ?_⟩
      clear hK K
      try simp only [Act.put, List.getElem_toArray, List.getElem_cons_zero, List.getElem_cons_succ, List.setIfInBounds_toArray, List.set_cons_zero, List.set_cons_succ]
      refine J_one 20 rfl (by kernel_rfl) (fun K hK => ?_)
      go_simp
      refine (filledI_any w _ (le4 E ++ [size % 256, size / 256 % 256]) (4 + 2) size w4 hx_w4.out rfl own_gg.out (by omega) (by omega) (by simp [le4])).mono ?_
      rintro e w5 ⟨v5, rfl, own5, hx5⟩
      refine hK _ _ ⟨fun _ => I0 _ hx5, ?_⟩
      clear hK K
      try simp only [Act.put, List.getElem_toArray, List.getElem_cons_zero, List.getElem_cons_succ, List.setIfInBounds_toArray, List.set_cons_zero, List.set_cons_succ]
      refine J_one 21 rfl (by kernel_rfl) (fun K hK => ?_)
      go_simp
      refine hK _ _ ⟨fun _ => I0 _ hx5, ?_⟩
      clear hK K
      try simp only [Act.put, List.setIfInBounds_toArray, List.set_cons_zero, List.set_cons_succ]
      refine J_done (by kernel_rfl) (OnlyOn.normal ?_)
      rw [← hEE] at own5
      replace own5 := hid own5
      replace hx5 := hid hx5
      go_wp2_with fail
      go_meet
      exact ⟨_, rfl, own5, hx5⟩
  case rest =>
    obtain ⟨vo, rfl, hown, hx⟩ := hcut
    go_wp2_with fail
    go_loopw [3, 4] (fun o i wr => ∃ k : Nat, k ≤ l.length ∧ i = .int .i64 k ∧ Hid (wr.ownsRow w.heap.size 5 1 o (hdB size l ++ bodyB size (l.take k)).length (bys (hdB size l ++ bodyB size (l.take k)))) ∧ Hid (Ext w wr)) (fun _ i _ => l.length - (intOf i).toNat)
    case atStart => exact ⟨0, by omega, rfl, by simpa [bodyB] using hown, hx⟩
    case round =>
      obtain ⟨k, hk, rfl, hO, hx⟩ := hrel
      obtain ⟨Ao, co, rfl, -⟩ := own_form hO.out
      have c11 := hx.out.cell c1
      have lg1 := World.block_lt_of_cell? wr _ c11
      dsimp only at lg1
      by_cases hlt : k < l.length
      · obtain ⟨ad, rfl, y0, y1, y2⟩ := hr.out.at_ hlt
        have x0 := hx.out.cell y0
        have x1 := hx.out.cell y1
        have x2 := hx.out.cell y2
        have la := World.block_lt_of_cell? wr _ x0
        have la2 := World.block_lt_of_cell? wr _ x2
        dsimp only at la2
        have hkk : (k : Int) < (l.length : Int) := by omega
        obtain ⟨_, _, _, hok, _⟩ := good_at hG hlt
        have hz9 : 0 ≤ (eth l k).blocks := by have := hok.1; omega
        have hz8 : (eth l k).blocks ≤ 2147483647 := by have := gf.2.1 k hlt; omega
        have hzz := hid (gf.2.1 k hlt)
        have hEl := entB_len hok ⟨hs1, hs2⟩
        have hpl := preE_len hok ⟨hs1, hs2⟩
        have hsx : (eth l k).s.size ≤ 2048 := by
          rcases hok.2 with h | h
          · rw [h.2]; decide
          · exact h.2.1
        have hal := ahead_len ⟨hs1, hs2⟩ hG (Nat.le_of_lt hlt)
        have hbg := hbb k (Nat.le_of_lt hlt)
        have hsucc := bodyB_succ size hlt
        have hzs0 : 0 ≤ (eth l k).blocks * size := Int.mul_nonneg hz9 (by omega)
        have hzs2 : (eth l k).blocks * size ≤ 4096 * 256 := Int.mul_le_mul (by have := hzz.out; omega) hs2 (by omega) (by omega)
        have hzs1 : (eth l k).blocks * size ≤ 2000000 := by omega
        have hwm : IntKind.i64.wrap ((eth l k).blocks * size) = (eth l k).blocks * size := IntWalk.i64_in _ (by omega)
        have hOu : Hid ((hdB size l ++ bodyB size (l.take k)).length ≤ 1048576) := by
          have := Int.mul_le_mul hbg.2 hs2 (by omega) (by omega)
          unfold Hid
          omega
        have hrel2 : Hid (hdB size l ++ bodyB size (l.take (k + 1)) = (hdB size l ++ bodyB size (l.take k)) ++ entB size (eth l k)) := by rw [hsucc, List.append_assoc]; rfl
        have hentl : Hid (0 < (entB size (eth l k)).length) := by rw [hEl]; unfold Hid; omega
        have hentu : Hid ((entB size (eth l k)).length ≤ 1048576) := by rw [hEl]; unfold Hid; omega
        clear hok hEl hpl hal hbg hsucc hzs2
        have hp0 : Hid ((eth l k).kind = 0 → pad (le4 0 ++ le4 (eth l k).blocks) ((eth l k).blocks * size).toNat = entB size (eth l k)) := by
          intro q
          unfold entB preE
          rw [if_pos q, if_pos q, List.append_nil]
        have hp1 : Hid (¬ (eth l k).kind = 0 → pad ((le4 1 ++ le4 (eth l k).blocks) ++ le4 (eth l k).s.size ++ txt (eth l k).s) ((eth l k).blocks * size).toNat = entB size (eth l k)) := by
          intro q
          unfold entB preE
          rw [if_neg q, if_neg q]
          simp only [List.append_assoc]
        generalize hLO : hdB size l ++ bodyB size (l.take k) = LO at *
        replace hLO := hid hLO
        generalize hEB : entB size (eth l k) = EB at *
        generalize (eth l k).blocks = z at *
        generalize (eth l k).s = z3 at *
        by_cases q : (eth l k).kind = 0
        · have d : ((eth l k).kind == 0) = true := by rw [q]; rfl
          have hent := hid (hp0.out q)
          clear hEB q hp0 hp1
          generalize ((eth l k).kind == 0) = fr at *
          subst d
          go_upto_region 9 with fail
          have hx9 : Hid (Ext w (wr.alloc (.cells #[.int .i64 z, .bool true, .string z3] 87))) := hx.out.alloc_right _
          have b0 : (wr.alloc (.cells #[.int .i64 z, .bool true, .string z3] 87)).cell? ⟨wr.heap.size, 0, none⟩ = some (.int .i64 z) := by go_simp
          have b1 : (wr.alloc (.cells #[.int .i64 z, .bool true, .string z3] 87)).cell? ⟨wr.heap.size, 1, none⟩ = some (.bool true) := by go_simp
          have b2 : (wr.alloc (.cells #[.int .i64 z, .bool true, .string z3] 87)).cell? ⟨wr.heap.size, 2, none⟩ = some (.string z3) := by go_simp
          have hO9 : Hid ((wr.alloc (.cells #[.int .i64 z, .bool true, .string z3] 87)).ownsRow w.heap.size 5 1 (.slice Ao LO.length co) LO.length (bys LO)) := hO.out.alloc _
          have hfar : Hid (some wr.heap.size ≠ (Value.slice Ao LO.length co).ownBlock) := fun e => by have := (hO.out.lt _ e.symm).2; omega
          clear hO x0 x1 x2 c11
          generalize hb5 : wr.heap.size = b5 at *
          generalize (wr.alloc (.cells #[.int .i64 z, .bool true, .string z3] 87)) = W9 at *
          go_cut [7] (fun b wx => ∃ gb cb, b = .slice (some ⟨gb, 0, none⟩) (4 + 4) cb ∧ Hid (wx.ownsRow W9.heap.size 5 1 (.slice (some ⟨gb, 0, none⟩) (4 + 4) cb) (4 + 4) (bys (le4 0 ++ le4 z))) ∧ Hid (Ext W9 wx))
          case first =>
            have I9 : ∀ w', Ext W9 w' → (fun w' : World => w'.cell? ⟨b5, 0, none⟩ = some (.int .i64 z)) w' := fun w' hx => hx.cell b0
            have hx_w1 : Hid (Ext W9 W9.drew) := (Ext.refl W9).drew_right
            refine region_J (fun w' : World => w'.cell? ⟨b5, 0, none⟩ = some (.int .i64 z)) 7 (by kernel_rfl) ?_
            generalize W9.drew = w1 at *
            refine J_takeO 0 (v := ?vm00) rfl (by kernel_rfl) (by kernel_rfl) (by kernel_rfl) (by kernel_rfl) (fun _ _ _ h => h) (Or.inl ⟨by rfl, ?ym00⟩) (I9 _ hx_w1.out) ?rm00
            case ym00 => (intro w hSw; obtain _ := hSw; (go_simp; with_reducible rfl))
            simp only [Act.put, List.getElem_toArray, List.getElem_cons_zero, List.getElem_cons_succ, List.setIfInBounds_toArray, List.set_cons_zero, List.set_cons_succ]
            refine J_takeO 2 (v := ?vm02) rfl (by kernel_rfl) (by kernel_rfl) (by kernel_rfl) (by kernel_rfl) (fun _ _ _ h => h) (Or.inl ⟨by rfl, ?ym02⟩) (I9 _ hx_w1.out) ?rm02
            case ym02 => (intro w hSw; obtain _ := hSw; (go_simp; with_reducible rfl))
            simp only [Act.put, List.getElem_toArray, List.getElem_cons_zero, List.getElem_cons_succ, List.setIfInBounds_toArray, List.set_cons_zero, List.set_cons_succ]
            refine J_takeO 3 (v := ?vm03) rfl (by kernel_rfl) (by kernel_rfl) (by kernel_rfl) (by kernel_rfl) (fun _ _ _ h => h) (Or.inl ⟨by rfl, ?ym03⟩) (I9 _ hx_w1.out) ?rm03
            case ym03 => (intro w hSw; obtain _ := hSw; (go_simp; with_reducible rfl))
            simp only [Act.put, List.getElem_toArray, List.getElem_cons_zero, List.getElem_cons_succ, List.setIfInBounds_toArray, List.set_cons_zero, List.set_cons_succ]
            refine J_one 1 rfl (by kernel_rfl) (fun K hK => ?_)
            go_simp
            refine (four_own W9 w1 0 hx_w1.out (by decide) (by decide)).mono ?_
            rintro e w2 ⟨pp, rfl, own_pp, hxx⟩
            have hx_w2 : Hid (Ext W9 w2) := hx_w1.out.trans hxx
            replace own_pp := hid own_pp
            clear hxx
            refine hK _ _ ⟨fun _ => I9 _ hx_w2.out, ?_⟩
            clear hK K
            try simp only [Act.put, List.getElem_toArray, List.getElem_cons_zero, List.getElem_cons_succ, List.setIfInBounds_toArray, List.set_cons_zero, List.set_cons_succ]
            refine J_one 4 rfl (by kernel_rfl) (fun K hK => ?_)
            go_simp
            refine (four_own W9 w2 z hx_w2.out hz9 hz8).mono ?_
            rintro e w3 ⟨qq, rfl, own_qq, hxx⟩
            have hx_w3 : Hid (Ext W9 w3) := hx_w2.out.trans hxx
            replace own_qq := hid own_qq
            replace own_pp := hid (hxx.own own_pp.out)
            clear hxx
            refine hK _ _ ⟨fun _ => I9 _ hx_w3.out, ?_⟩
            clear hK K
            try simp only [Act.put, List.getElem_toArray, List.getElem_cons_zero, List.getElem_cons_succ, List.setIfInBounds_toArray, List.set_cons_zero, List.set_cons_succ]
            refine J_one 5 rfl (by kernel_rfl) (fun K hK => ?_)
            refine step_append_lies _ rfl _ _ 27 rfl W9.heap.size 5 i0 _ 1 1 Try.underlying27 hi0 hz0 hz1 hz2 rfl (by decide) (.slice (some ⟨pp, 0, none⟩) 4 4) 4 (bys (le4 0)) (by simp [Act.eval, Act.put]) own_pp.out ⟨qq, 0, none⟩ 4 4 (bys (le4 z)) (by simp [Act.eval, Act.put]) (by rfl) (own_qq.out.cells (g := qq) rfl) (bys_one _) (by decide) (by decide) (by decide) hx_w3.out.size w3.heap.size rfl ?_
            intro gg cgg w4 own_gg hgr _ _
            have hx_w4 : Hid (Ext W9 w4) := ext_push hx_w3.out own_pp.out hgr
            rw [← bys_append] at own_gg
            replace own_gg := hid own_gg
            clear hgr
            refine hK _ _ ⟨fun _ => I9 _ hx_w4.out, ?_⟩
            clear hK K
            try simp only [Act.put, List.getElem_toArray, List.getElem_cons_zero, List.getElem_cons_succ, List.setIfInBounds_toArray, List.set_cons_zero, List.set_cons_succ]
            refine J_one 6 rfl (by kernel_rfl) (fun K hK => ?_)
            go_simp
            refine hK _ _ ⟨fun _ => I9 _ hx_w4.out, ?_⟩
            clear hK K
            try simp only [Act.put, List.setIfInBounds_toArray, List.set_cons_zero, List.set_cons_succ]
            refine J_done (by kernel_rfl) (OnlyOn.normal ?_)
            go_wp2_with fail
            go_meet
            exact ⟨gg, cgg, rfl, own_gg, hx_w4⟩
          case rest =>
            obtain ⟨gb, cgb, rfl, own_gb, hxd⟩ := hcut
            generalize hwd : wc = we at *
            have hxe := hxd
            have own_gc := own_gb
            clear own_gb
            generalize gb = gc at *
            generalize cgb = cgc at *
            have b1e := hxe.out.cell b1
            have lb5 := World.block_lt_of_cell? we _ b1e
            dsimp only at lb5
            go_upto_region 12 with fail
            have I9 : ∀ w', Ext W9 w' → (fun w' : World => w'.cell? ⟨b5, 0, none⟩ = some (.int .i64 z) ∧ w'.cell? ⟨r, 0, none⟩ = some (.int .i64 size)) w' := fun w' hx => ⟨hx.cell b0, (hx9.out.trans hx).cell c0⟩
            have hx_w1 : Hid (Ext W9 we.drew) := hxe.out.drew_right
            replace own_gc : Hid (we.drew.ownsRow W9.heap.size 5 1 (.slice (some ⟨gc, 0, none⟩) (4 + 4) cgc) (4 + 4) (bys (le4 0 ++ le4 z))) := own_gc.out
            refine region_J (fun w' : World => w'.cell? ⟨b5, 0, none⟩ = some (.int .i64 z) ∧ w'.cell? ⟨r, 0, none⟩ = some (.int .i64 size)) 12 (by kernel_rfl) ?_
            generalize we.drew = w1 at *
            refine J_takeO 0 (v := ?vn00) rfl (by kernel_rfl) (by kernel_rfl) (by kernel_rfl) (by kernel_rfl) (fun _ _ _ h => h) (Or.inl ⟨by rfl, ?yn00⟩) (I9 _ hx_w1.out) ?rn00
            case yn00 => (intro w hSw; obtain ⟨_, _⟩ := hSw; (go_simp; with_reducible rfl))
            simp only [Act.put, List.getElem_toArray, List.getElem_cons_zero, List.getElem_cons_succ, List.setIfInBounds_toArray, List.set_cons_zero, List.set_cons_succ]
            refine J_takeO 1 (v := ?vn01) rfl (by kernel_rfl) (by kernel_rfl) (by kernel_rfl) (by kernel_rfl) (fun _ _ _ h => h) (Or.inl ⟨by rfl, ?yn01⟩) (I9 _ hx_w1.out) ?rn01
            case yn01 => (intro w hSw; obtain ⟨_, _⟩ := hSw; (go_simp; with_reducible rfl))
            simp only [Act.put, List.getElem_toArray, List.getElem_cons_zero, List.getElem_cons_succ, List.setIfInBounds_toArray, List.set_cons_zero, List.set_cons_succ]
            refine J_takeO 2 (v := ?vn02) rfl (by kernel_rfl) (by kernel_rfl) (by kernel_rfl) (by kernel_rfl) (fun _ _ _ h => h) (Or.inl ⟨by rfl, ?yn02⟩) (I9 _ hx_w1.out) ?rn02
            case yn02 => (intro w hSw; obtain ⟨_, _⟩ := hSw; (go_simp; with_reducible rfl))
            simp only [Act.put, List.getElem_toArray, List.getElem_cons_zero, List.getElem_cons_succ, List.setIfInBounds_toArray, List.set_cons_zero, List.set_cons_succ]
            refine J_takeO 3 (v := ?vn03) rfl (by kernel_rfl) (by kernel_rfl) (by kernel_rfl) (by kernel_rfl) (fun _ _ _ h => h) (Or.inl ⟨by rfl, ?yn03⟩) (I9 _ hx_w1.out) ?rn03
            case yn03 => (intro w hSw; obtain ⟨_, _⟩ := hSw; (go_simp; with_reducible rfl))
            simp only [Act.put, List.getElem_toArray, List.getElem_cons_zero, List.getElem_cons_succ, List.setIfInBounds_toArray, List.set_cons_zero, List.set_cons_succ]
            refine J_takeO 4 (v := ?vn04) rfl (by kernel_rfl) (by kernel_rfl) (by kernel_rfl) (by kernel_rfl) (fun _ _ _ h => h) (Or.inl ⟨by rfl, ?yn04⟩) (I9 _ hx_w1.out) ?rn04
            case yn04 => (intro w hSw; obtain ⟨_, _⟩ := hSw; (go_simp; with_reducible rfl))
            simp only [Act.put, List.getElem_toArray, List.getElem_cons_zero, List.getElem_cons_succ, List.setIfInBounds_toArray, List.set_cons_zero, List.set_cons_succ]
            refine J_takeO 5 (v := ?vn05) rfl (by kernel_rfl) (by kernel_rfl) (by kernel_rfl) (by kernel_rfl) (fun _ _ _ h => h) (Or.inl ⟨by rfl, ?yn05⟩) (I9 _ hx_w1.out) ?rn05
            case yn05 => (intro w hSw; obtain ⟨_, _⟩ := hSw; (go_simp; with_reducible rfl))
            simp only [Act.put, List.getElem_toArray, List.getElem_cons_zero, List.getElem_cons_succ, List.setIfInBounds_toArray, List.set_cons_zero, List.set_cons_succ]
            refine J_takeO 6 (v := ?vn06) rfl (by kernel_rfl) (by kernel_rfl) (by kernel_rfl) (by kernel_rfl) (fun _ _ _ h => h) (Or.inl ⟨by rfl, ?yn06⟩) (I9 _ hx_w1.out) ?rn06
            case yn06 => (intro w hSw; obtain ⟨_, _⟩ := hSw; (go_simp; with_reducible rfl))
            simp only [Act.put, List.getElem_toArray, List.getElem_cons_zero, List.getElem_cons_succ, List.setIfInBounds_toArray, List.set_cons_zero, List.set_cons_succ]
            refine J_takeO 7 (v := ?vn07) rfl (by kernel_rfl) (by kernel_rfl) (by kernel_rfl) (by kernel_rfl) (fun _ _ _ h => h) (Or.inl ⟨by rfl, ?yn07⟩) (I9 _ hx_w1.out) ?rn07
            case yn07 => (intro w hSw; obtain ⟨_, _⟩ := hSw; (go_simp; with_reducible rfl))
            simp only [Act.put, List.getElem_toArray, List.getElem_cons_zero, List.getElem_cons_succ, List.setIfInBounds_toArray, List.set_cons_zero, List.set_cons_succ]
            refine J_takeO 8 (v := ?vn08) rfl (by kernel_rfl) (by kernel_rfl) (by kernel_rfl) (by kernel_rfl) (fun _ _ _ h => h) (Or.inl ⟨by rfl, ?yn08⟩) (I9 _ hx_w1.out) ?rn08
            case yn08 => (intro w hSw; obtain ⟨_, _⟩ := hSw; (go_simp; with_reducible rfl))
            simp only [Act.put, List.getElem_toArray, List.getElem_cons_zero, List.getElem_cons_succ, List.setIfInBounds_toArray, List.set_cons_zero, List.set_cons_succ]
            refine J_one 9 rfl (by kernel_rfl) (fun K hK => ?_)
            go_simp
            refine (filledI_any W9 _ (le4 0 ++ le4 z) (4 + 4) (z * size) w1 hx_w1.out rfl own_gc.out hzs0 hzs1 (by simp [le4])).mono ?_
            rintro e w2 ⟨v6, rfl, own6, hx_w2⟩
            rw [hent.out] at own6
            obtain ⟨g6, c6, rfl, _⟩ := own_sliceK own6 (by have := hentl.out; omega)
            replace own6 := hid own6
            refine hK _ _ ⟨fun _ => I9 _ hx_w2, ?_⟩
            clear hK K
            try simp only [Act.put, List.getElem_toArray, List.getElem_cons_zero, List.getElem_cons_succ, List.setIfInBounds_toArray, List.set_cons_zero, List.set_cons_succ]
            refine J_one 10 rfl (by kernel_rfl) (fun K hK => ?_)
            refine step_append_lies _ rfl _ _ 27 rfl w.heap.size 5 i0 _ 1 1 Try.underlying27 hi0 hz0 hz1 hz2 rfl (by decide) (.slice Ao LO.length co) LO.length (bys LO) (by simp [Act.eval, Act.put]) (hx_w2.own (hO9.out)) ⟨g6, 0, none⟩ EB.length c6 (bys EB) (by simp [Act.eval, Act.put]) (by rw [bys_len]; omega) (own6.out.cells (g := g6) rfl) (bys_one _) (by have := hentl.out; omega) (by have := hentl.out; have := hentu.out; have := hOu.out; unfold maxLen; omega) (by have := hentu.out; have := hOu.out; omega) (hx9.out.trans hx_w2).size w2.heap.size rfl ?_
            intro gz cz w7 own7 hgr7 _ _
            have hx7 : Hid (Ext w w7) := ext_push (hx9.out.trans hx_w2) (hx_w2.own hO9.out) hgr7
            rw [← bys_append] at own7
            replace own7 := hid own7
            have I7 : (fun w' : World => w'.cell? ⟨b5, 0, none⟩ = some (.int .i64 z) ∧ w'.cell? ⟨r, 0, none⟩ = some (.int .i64 size)) w7 := ⟨hgr7.cell (hx_w2.cell b0) hfar.out, hx7.out.cell c0⟩
            clear hgr7
            refine hK _ _ ⟨fun _ => I7, ?_⟩
            clear hK K
            try simp only [Act.put, List.getElem_toArray, List.getElem_cons_zero, List.getElem_cons_succ, List.setIfInBounds_toArray, List.set_cons_zero, List.set_cons_succ]
            refine J_one 11 rfl (by kernel_rfl) (fun K hK => ?_)
            go_simp
            refine hK _ _ ⟨fun _ => I7, ?_⟩
            clear hK K
            try simp only [Act.put, List.setIfInBounds_toArray, List.set_cons_zero, List.set_cons_succ]
            refine J_done (by kernel_rfl) (OnlyOn.normal ?_)
            go_wp2_with fail
            go_roundw
            case rel => exact ⟨k + 1, by omega, by go_num, by rw [hrel2.out, List.length_append]; exact own7, hx7⟩
            case measure => simp [intOf]; omega
        · have d : ((eth l k).kind == 0) = false := by rw [beq_eq_false_iff_ne]; exact q
          have hent := hid (hp1.out q)
          clear hEB q hp0 hp1
          generalize ((eth l k).kind == 0) = fr at *
          subst d
          go_upto_region 9 with fail
          have hx9 : Hid (Ext w (wr.alloc (.cells #[.int .i64 z, .bool false, .string z3] 87))) := hx.out.alloc_right _
          have b0 : (wr.alloc (.cells #[.int .i64 z, .bool false, .string z3] 87)).cell? ⟨wr.heap.size, 0, none⟩ = some (.int .i64 z) := by go_simp
          have b1 : (wr.alloc (.cells #[.int .i64 z, .bool false, .string z3] 87)).cell? ⟨wr.heap.size, 1, none⟩ = some (.bool false) := by go_simp
          have b2 : (wr.alloc (.cells #[.int .i64 z, .bool false, .string z3] 87)).cell? ⟨wr.heap.size, 2, none⟩ = some (.string z3) := by go_simp
          have hO9 : Hid ((wr.alloc (.cells #[.int .i64 z, .bool false, .string z3] 87)).ownsRow w.heap.size 5 1 (.slice Ao LO.length co) LO.length (bys LO)) := hO.out.alloc _
          have hfar : Hid (some wr.heap.size ≠ (Value.slice Ao LO.length co).ownBlock) := fun e => by have := (hO.out.lt _ e.symm).2; omega
          clear hO x0 x1 x2 c11
          generalize hb5 : wr.heap.size = b5 at *
          generalize (wr.alloc (.cells #[.int .i64 z, .bool false, .string z3] 87)) = W9 at *
          go_cut [7] (fun b wx => ∃ gb cb, b = .slice (some ⟨gb, 0, none⟩) (4 + 4) cb ∧ Hid (wx.ownsRow W9.heap.size 5 1 (.slice (some ⟨gb, 0, none⟩) (4 + 4) cb) (4 + 4) (bys (le4 1 ++ le4 z))) ∧ Hid (Ext W9 wx))
          case first =>
            have I9 : ∀ w', Ext W9 w' → (fun w' : World => w'.cell? ⟨b5, 0, none⟩ = some (.int .i64 z)) w' := fun w' hx => hx.cell b0
            have hx_w1 : Hid (Ext W9 W9.drew) := (Ext.refl W9).drew_right
            refine region_J (fun w' : World => w'.cell? ⟨b5, 0, none⟩ = some (.int .i64 z)) 7 (by kernel_rfl) ?_
            generalize W9.drew = w1 at *
            refine J_takeO 0 (v := ?vm10) rfl (by kernel_rfl) (by kernel_rfl) (by kernel_rfl) (by kernel_rfl) (fun _ _ _ h => h) (Or.inl ⟨by rfl, ?ym10⟩) (I9 _ hx_w1.out) ?rm10
            case ym10 => (intro w hSw; obtain _ := hSw; (go_simp; with_reducible rfl))
            simp only [Act.put, List.getElem_toArray, List.getElem_cons_zero, List.getElem_cons_succ, List.setIfInBounds_toArray, List.set_cons_zero, List.set_cons_succ]
            refine J_takeO 2 (v := ?vm12) rfl (by kernel_rfl) (by kernel_rfl) (by kernel_rfl) (by kernel_rfl) (fun _ _ _ h => h) (Or.inl ⟨by rfl, ?ym12⟩) (I9 _ hx_w1.out) ?rm12
            case ym12 => (intro w hSw; obtain _ := hSw; (go_simp; with_reducible rfl))
            simp only [Act.put, List.getElem_toArray, List.getElem_cons_zero, List.getElem_cons_succ, List.setIfInBounds_toArray, List.set_cons_zero, List.set_cons_succ]
            refine J_takeO 3 (v := ?vm13) rfl (by kernel_rfl) (by kernel_rfl) (by kernel_rfl) (by kernel_rfl) (fun _ _ _ h => h) (Or.inl ⟨by rfl, ?ym13⟩) (I9 _ hx_w1.out) ?rm13
            case ym13 => (intro w hSw; obtain _ := hSw; (go_simp; with_reducible rfl))
            simp only [Act.put, List.getElem_toArray, List.getElem_cons_zero, List.getElem_cons_succ, List.setIfInBounds_toArray, List.set_cons_zero, List.set_cons_succ]
            refine J_one 1 rfl (by kernel_rfl) (fun K hK => ?_)
            go_simp
            refine (four_own W9 w1 1 hx_w1.out (by decide) (by decide)).mono ?_
            rintro e w2 ⟨pp, rfl, own_pp, hxx⟩
            have hx_w2 : Hid (Ext W9 w2) := hx_w1.out.trans hxx
            replace own_pp := hid own_pp
            clear hxx
            refine hK _ _ ⟨fun _ => I9 _ hx_w2.out, ?_⟩
            clear hK K
            try simp only [Act.put, List.getElem_toArray, List.getElem_cons_zero, List.getElem_cons_succ, List.setIfInBounds_toArray, List.set_cons_zero, List.set_cons_succ]
            refine J_one 4 rfl (by kernel_rfl) (fun K hK => ?_)
            go_simp
            refine (four_own W9 w2 z hx_w2.out hz9 hz8).mono ?_
            rintro e w3 ⟨qq, rfl, own_qq, hxx⟩
            have hx_w3 : Hid (Ext W9 w3) := hx_w2.out.trans hxx
            replace own_qq := hid own_qq
            replace own_pp := hid (hxx.own own_pp.out)
            clear hxx
            refine hK _ _ ⟨fun _ => I9 _ hx_w3.out, ?_⟩
            clear hK K
            try simp only [Act.put, List.getElem_toArray, List.getElem_cons_zero, List.getElem_cons_succ, List.setIfInBounds_toArray, List.set_cons_zero, List.set_cons_succ]
            refine J_one 5 rfl (by kernel_rfl) (fun K hK => ?_)
            refine step_append_lies _ rfl _ _ 27 rfl W9.heap.size 5 i0 _ 1 1 Try.underlying27 hi0 hz0 hz1 hz2 rfl (by decide) (.slice (some ⟨pp, 0, none⟩) 4 4) 4 (bys (le4 1)) (by simp [Act.eval, Act.put]) own_pp.out ⟨qq, 0, none⟩ 4 4 (bys (le4 z)) (by simp [Act.eval, Act.put]) (by rfl) (own_qq.out.cells (g := qq) rfl) (bys_one _) (by decide) (by decide) (by decide) hx_w3.out.size w3.heap.size rfl ?_
            intro gg cgg w4 own_gg hgr _ _
            have hx_w4 : Hid (Ext W9 w4) := ext_push hx_w3.out own_pp.out hgr
            rw [← bys_append] at own_gg
            replace own_gg := hid own_gg
            clear hgr
            refine hK _ _ ⟨fun _ => I9 _ hx_w4.out, ?_⟩
            clear hK K
            try simp only [Act.put, List.getElem_toArray, List.getElem_cons_zero, List.getElem_cons_succ, List.setIfInBounds_toArray, List.set_cons_zero, List.set_cons_succ]
            refine J_one 6 rfl (by kernel_rfl) (fun K hK => ?_)
            go_simp
            refine hK _ _ ⟨fun _ => I9 _ hx_w4.out, ?_⟩
            clear hK K
            try simp only [Act.put, List.setIfInBounds_toArray, List.set_cons_zero, List.set_cons_succ]
            refine J_done (by kernel_rfl) (OnlyOn.normal ?_)
            go_wp2_with fail
            go_meet
            exact ⟨gg, cgg, rfl, own_gg, hx_w4⟩
          case rest =>
            obtain ⟨gb, cgb, rfl, own_gb, hxd⟩ := hcut
            generalize hwd : wc = wd at *
            have b1e := hxd.out.cell b1
            have lb5 := World.block_lt_of_cell? wd _ b1e
            dsimp only at lb5
            go_upto_region 11 with fail
            go_cut [7] (fun b wx => ∃ gb cb, b = .slice (some ⟨gb, 0, none⟩) ((4 + 4) + 4 + z3.size) cb ∧ Hid (wx.ownsRow W9.heap.size 5 1 (.slice (some ⟨gb, 0, none⟩) ((4 + 4) + 4 + z3.size) cb) ((4 + 4) + 4 + z3.size) (bys ((le4 1 ++ le4 z) ++ le4 z3.size ++ txt z3))) ∧ Hid (Ext W9 wx))
            case first =>
              have I9 : ∀ w', Ext W9 w' → (fun w' : World => w'.cell? ⟨b5, 2, none⟩ = some (.string z3)) w' := fun w' hx => hx.cell b2
              have hx_w1 : Hid (Ext W9 wd.drew) := hxd.out.drew_right
              replace own_gb : Hid (wd.drew.ownsRow W9.heap.size 5 1 (.slice (some ⟨gb, 0, none⟩) (4 + 4) cgb) (4 + 4) (bys (le4 1 ++ le4 z))) := own_gb.out
              refine region_J (fun w' : World => w'.cell? ⟨b5, 2, none⟩ = some (.string z3)) 10 (by kernel_rfl) ?_
              generalize wd.drew = w1 at *
              refine J_takeO 0 (v := ?vp10) rfl (by kernel_rfl) (by kernel_rfl) (by kernel_rfl) (by kernel_rfl) (fun _ _ _ h => h) (Or.inl ⟨by rfl, ?yp10⟩) (I9 _ hx_w1.out) ?rp10
              case yp10 => (intro w hSw; obtain _ := hSw; (go_simp; with_reducible rfl))
              simp only [Act.put, List.getElem_toArray, List.getElem_cons_zero, List.getElem_cons_succ, List.setIfInBounds_toArray, List.set_cons_zero, List.set_cons_succ]
              refine J_takeO 1 (v := ?vp11) rfl (by kernel_rfl) (by kernel_rfl) (by kernel_rfl) (by kernel_rfl) (fun _ _ _ h => h) (Or.inl ⟨by rfl, ?yp11⟩) (I9 _ hx_w1.out) ?rp11
              case yp11 => (intro w hSw; obtain _ := hSw; (go_simp; with_reducible rfl))
              simp only [Act.put, List.getElem_toArray, List.getElem_cons_zero, List.getElem_cons_succ, List.setIfInBounds_toArray, List.set_cons_zero, List.set_cons_succ]
              refine J_takeO 2 (v := ?vp12) rfl (by kernel_rfl) (by kernel_rfl) (by kernel_rfl) (by kernel_rfl) (fun _ _ _ h => h) (Or.inl ⟨by rfl, ?yp12⟩) (I9 _ hx_w1.out) ?rp12
              case yp12 => (intro w hSw; obtain _ := hSw; (go_simp; with_reducible rfl))
              simp only [Act.put, List.getElem_toArray, List.getElem_cons_zero, List.getElem_cons_succ, List.setIfInBounds_toArray, List.set_cons_zero, List.set_cons_succ]
              refine J_takeO 3 (v := ?vp13) rfl (by kernel_rfl) (by kernel_rfl) (by kernel_rfl) (by kernel_rfl) (fun _ _ _ h => h) (Or.inl ⟨by rfl, ?yp13⟩) (I9 _ hx_w1.out) ?rp13
              case yp13 => (intro w hSw; obtain _ := hSw; (go_simp; with_reducible rfl))
              simp only [Act.put, List.getElem_toArray, List.getElem_cons_zero, List.getElem_cons_succ, List.setIfInBounds_toArray, List.set_cons_zero, List.set_cons_succ]
              refine J_takeO 6 (v := ?vp16) rfl (by kernel_rfl) (by kernel_rfl) (by kernel_rfl) (by kernel_rfl) (fun _ _ _ h => h) (Or.inl ⟨by rfl, ?yp16⟩) (I9 _ hx_w1.out) ?rp16
              case yp16 => (intro w hSw; obtain _ := hSw; (go_simp; with_reducible rfl))
              simp only [Act.put, List.getElem_toArray, List.getElem_cons_zero, List.getElem_cons_succ, List.setIfInBounds_toArray, List.set_cons_zero, List.set_cons_succ]
              refine J_takeO 7 (v := ?vp17) rfl (by kernel_rfl) (by kernel_rfl) (by kernel_rfl) (by kernel_rfl) (fun _ _ _ h => h) (Or.inl ⟨by rfl, ?yp17⟩) (I9 _ hx_w1.out) ?rp17
              case yp17 => (intro w hSw; obtain _ := hSw; (go_simp; with_reducible rfl))
              simp only [Act.put, List.getElem_toArray, List.getElem_cons_zero, List.getElem_cons_succ, List.setIfInBounds_toArray, List.set_cons_zero, List.set_cons_succ]
              refine J_one 4 rfl (by kernel_rfl) (fun K hK => ?_)
              go_simp
              refine (four_own W9 w1 z3.size hx_w1.out (by omega) (by omega)).mono ?_
              rintro e w2 ⟨pp, rfl, own_pp, hxx⟩
              have hx_w2 : Hid (Ext W9 w2) := hx_w1.out.trans hxx
              replace own_pp := hid own_pp
              replace own_gb := hid (hxx.own own_gb.out)
              clear hxx
              refine hK _ _ ⟨fun _ => I9 _ hx_w2.out, ?_⟩
              clear hK K
              try simp only [Act.put, List.getElem_toArray, List.getElem_cons_zero, List.getElem_cons_succ, List.setIfInBounds_toArray, List.set_cons_zero, List.set_cons_succ]
              refine J_one 5 rfl (by kernel_rfl) (fun K hK => ?_)
              refine step_append_lies _ rfl _ _ 27 rfl W9.heap.size 5 i0 _ 1 1 Try.underlying27 hi0 hz0 hz1 hz2 rfl (by decide) (.slice (some ⟨gb, 0, none⟩) (4 + 4) cgb) (4 + 4) (bys (le4 1 ++ le4 z)) (by simp [Act.eval, Act.put]) own_gb.out ⟨pp, 0, none⟩ 4 4 (bys (le4 z3.size)) (by simp [Act.eval, Act.put]) (by rfl) (own_pp.out.cells (g := pp) rfl) (bys_one _) (by decide) (by unfold maxLen; omega) (by omega) hx_w2.out.size w2.heap.size rfl ?_
              intro gg cgg w3 own_gg hgr _ _
              have hx_w3 : Hid (Ext W9 w3) := ext_push hx_w2.out own_gb.out hgr
              rw [← bys_append] at own_gg
              replace own_gg := hid own_gg
              clear hgr
              refine hK _ _ ⟨fun _ => I9 _ hx_w3.out, ?_⟩
              clear hK K
              try simp only [Act.put, List.getElem_toArray, List.getElem_cons_zero, List.getElem_cons_succ, List.setIfInBounds_toArray, List.set_cons_zero, List.set_cons_succ]
              obtain ⟨v5, w5, hap, own5, hgr5, -⟩ := Lib.run_append_own_string (P := Try.prog) w3 W9.heap.size 27 9 27 5 i0 Try.underlying27 Try.underlying9 hi0 hz0 hz1 hz2 _ _ _ own_gg.out z3 (by unfold maxLen; omega) (by omega) hx_w3.out.size
              have hx_w5 : Hid (Ext W9 w5) := ext_push hx_w3.out own_gg.out hgr5
              rw [strCells_txt, ← bys_append] at own5
              obtain ⟨g5, c5, rfl, _⟩ := own_sliceK own5 (by omega)
              replace own5 := hid own5
              clear hgr5
              refine J_one 8 rfl (by kernel_rfl) (fun K hK => ?_)
              refine step_run rfl _ (ex_append _ _ _ _ rfl _ _ (by simp [Act.eval, Act.put]) (by simp [Act.eval, Act.put]) _ hap) ?_
              refine hK _ _ ⟨fun _ => I9 _ hx_w5.out, ?_⟩
              clear hK K
              try simp only [Act.put, List.getElem_toArray, List.getElem_cons_zero, List.getElem_cons_succ, List.setIfInBounds_toArray, List.set_cons_zero, List.set_cons_succ]
              refine J_one 9 rfl (by kernel_rfl) (fun K hK => ?_)
              go_simp
              refine hK _ _ ⟨fun _ => I9 _ hx_w5.out, ?_⟩
              clear hK K
              try simp only [Act.put, List.setIfInBounds_toArray, List.set_cons_zero, List.set_cons_succ]
              refine J_done (by kernel_rfl) (OnlyOn.normal ?_)
              go_wp2_with fail
              go_meet
              exact ⟨g5, c5, rfl, own5, hx_w5⟩
            case rest =>
              obtain ⟨gc, cgc, rfl, own_gc, hxe⟩ := hcut
              generalize hwe : wc = we at *
              have b0e := hxe.out.cell b0
              have lb5e := World.block_lt_of_cell? we _ b0e
              dsimp only at lb5e
              go_upto_region 12 with fail
              have I9 : ∀ w', Ext W9 w' → (fun w' : World => w'.cell? ⟨b5, 0, none⟩ = some (.int .i64 z) ∧ w'.cell? ⟨r, 0, none⟩ = some (.int .i64 size)) w' := fun w' hx => ⟨hx.cell b0, (hx9.out.trans hx).cell c0⟩
              have hx_w1 : Hid (Ext W9 we.drew) := hxe.out.drew_right
              replace own_gc : Hid (we.drew.ownsRow W9.heap.size 5 1 (.slice (some ⟨gc, 0, none⟩) ((4 + 4) + 4 + z3.size) cgc) ((4 + 4) + 4 + z3.size) (bys ((le4 1 ++ le4 z) ++ le4 z3.size ++ txt z3))) := own_gc.out
              refine region_J (fun w' : World => w'.cell? ⟨b5, 0, none⟩ = some (.int .i64 z) ∧ w'.cell? ⟨r, 0, none⟩ = some (.int .i64 size)) 12 (by kernel_rfl) ?_
              generalize we.drew = w1 at *
              refine J_takeO 0 (v := ?vn10) rfl (by kernel_rfl) (by kernel_rfl) (by kernel_rfl) (by kernel_rfl) (fun _ _ _ h => h) (Or.inl ⟨by rfl, ?yn10⟩) (I9 _ hx_w1.out) ?rn10
              case yn10 => (intro w hSw; obtain ⟨_, _⟩ := hSw; (go_simp; with_reducible rfl))
              simp only [Act.put, List.getElem_toArray, List.getElem_cons_zero, List.getElem_cons_succ, List.setIfInBounds_toArray, List.set_cons_zero, List.set_cons_succ]
              refine J_takeO 1 (v := ?vn11) rfl (by kernel_rfl) (by kernel_rfl) (by kernel_rfl) (by kernel_rfl) (fun _ _ _ h => h) (Or.inl ⟨by rfl, ?yn11⟩) (I9 _ hx_w1.out) ?rn11
              case yn11 => (intro w hSw; obtain ⟨_, _⟩ := hSw; (go_simp; with_reducible rfl))
              simp only [Act.put, List.getElem_toArray, List.getElem_cons_zero, List.getElem_cons_succ, List.setIfInBounds_toArray, List.set_cons_zero, List.set_cons_succ]
              refine J_takeO 2 (v := ?vn12) rfl (by kernel_rfl) (by kernel_rfl) (by kernel_rfl) (by kernel_rfl) (fun _ _ _ h => h) (Or.inl ⟨by rfl, ?yn12⟩) (I9 _ hx_w1.out) ?rn12
              case yn12 => (intro w hSw; obtain ⟨_, _⟩ := hSw; (go_simp; with_reducible rfl))
              simp only [Act.put, List.getElem_toArray, List.getElem_cons_zero, List.getElem_cons_succ, List.setIfInBounds_toArray, List.set_cons_zero, List.set_cons_succ]
              refine J_takeO 3 (v := ?vn13) rfl (by kernel_rfl) (by kernel_rfl) (by kernel_rfl) (by kernel_rfl) (fun _ _ _ h => h) (Or.inl ⟨by rfl, ?yn13⟩) (I9 _ hx_w1.out) ?rn13
              case yn13 => (intro w hSw; obtain ⟨_, _⟩ := hSw; (go_simp; with_reducible rfl))
              simp only [Act.put, List.getElem_toArray, List.getElem_cons_zero, List.getElem_cons_succ, List.setIfInBounds_toArray, List.set_cons_zero, List.set_cons_succ]
              refine J_takeO 4 (v := ?vn14) rfl (by kernel_rfl) (by kernel_rfl) (by kernel_rfl) (by kernel_rfl) (fun _ _ _ h => h) (Or.inl ⟨by rfl, ?yn14⟩) (I9 _ hx_w1.out) ?rn14
              case yn14 => (intro w hSw; obtain ⟨_, _⟩ := hSw; (go_simp; with_reducible rfl))
              simp only [Act.put, List.getElem_toArray, List.getElem_cons_zero, List.getElem_cons_succ, List.setIfInBounds_toArray, List.set_cons_zero, List.set_cons_succ]
              refine J_takeO 5 (v := ?vn15) rfl (by kernel_rfl) (by kernel_rfl) (by kernel_rfl) (by kernel_rfl) (fun _ _ _ h => h) (Or.inl ⟨by rfl, ?yn15⟩) (I9 _ hx_w1.out) ?rn15
              case yn15 => (intro w hSw; obtain ⟨_, _⟩ := hSw; (go_simp; with_reducible rfl))
              simp only [Act.put, List.getElem_toArray, List.getElem_cons_zero, List.getElem_cons_succ, List.setIfInBounds_toArray, List.set_cons_zero, List.set_cons_succ]
              refine J_takeO 6 (v := ?vn16) rfl (by kernel_rfl) (by kernel_rfl) (by kernel_rfl) (by kernel_rfl) (fun _ _ _ h => h) (Or.inl ⟨by rfl, ?yn16⟩) (I9 _ hx_w1.out) ?rn16
              case yn16 => (intro w hSw; obtain ⟨_, _⟩ := hSw; (go_simp; with_reducible rfl))
              simp only [Act.put, List.getElem_toArray, List.getElem_cons_zero, List.getElem_cons_succ, List.setIfInBounds_toArray, List.set_cons_zero, List.set_cons_succ]
              refine J_takeO 7 (v := ?vn17) rfl (by kernel_rfl) (by kernel_rfl) (by kernel_rfl) (by kernel_rfl) (fun _ _ _ h => h) (Or.inl ⟨by rfl, ?yn17⟩) (I9 _ hx_w1.out) ?rn17
              case yn17 => (intro w hSw; obtain ⟨_, _⟩ := hSw; (go_simp; with_reducible rfl))
              simp only [Act.put, List.getElem_toArray, List.getElem_cons_zero, List.getElem_cons_succ, List.setIfInBounds_toArray, List.set_cons_zero, List.set_cons_succ]
              refine J_takeO 8 (v := ?vn18) rfl (by kernel_rfl) (by kernel_rfl) (by kernel_rfl) (by kernel_rfl) (fun _ _ _ h => h) (Or.inl ⟨by rfl, ?yn18⟩) (I9 _ hx_w1.out) ?rn18
              case yn18 => (intro w hSw; obtain ⟨_, _⟩ := hSw; (go_simp; with_reducible rfl))
              simp only [Act.put, List.getElem_toArray, List.getElem_cons_zero, List.getElem_cons_succ, List.setIfInBounds_toArray, List.set_cons_zero, List.set_cons_succ]
              refine J_one 9 rfl (by kernel_rfl) (fun K hK => ?_)
              go_simp
              refine (filledI_any W9 _ ((le4 1 ++ le4 z) ++ le4 z3.size ++ txt z3) ((4 + 4) + 4 + z3.size) (z * size) w1 hx_w1.out (by simp [le4, txt_len]; omega) own_gc.out hzs0 hzs1 (by simp [le4, txt_len]; omega)).mono ?_
              rintro e w2 ⟨v6, rfl, own6, hx_w2⟩
              rw [hent.out] at own6
              obtain ⟨g6, c6, rfl, _⟩ := own_sliceK own6 (by have := hentl.out; omega)
              replace own6 := hid own6
              refine hK _ _ ⟨fun _ => I9 _ hx_w2, ?_⟩
              clear hK K
              try simp only [Act.put, List.getElem_toArray, List.getElem_cons_zero, List.getElem_cons_succ, List.setIfInBounds_toArray, List.set_cons_zero, List.set_cons_succ]
              refine J_one 10 rfl (by kernel_rfl) (fun K hK => ?_)
              refine step_append_lies _ rfl _ _ 27 rfl w.heap.size 5 i0 _ 1 1 Try.underlying27 hi0 hz0 hz1 hz2 rfl (by decide) (.slice Ao LO.length co) LO.length (bys LO) (by simp [Act.eval, Act.put]) (hx_w2.own (hO9.out)) ⟨g6, 0, none⟩ EB.length c6 (bys EB) (by simp [Act.eval, Act.put]) (by rw [bys_len]; omega) (own6.out.cells (g := g6) rfl) (bys_one _) (by have := hentl.out; omega) (by have := hentl.out; have := hentu.out; have := hOu.out; unfold maxLen; omega) (by have := hentu.out; have := hOu.out; omega) (hx9.out.trans hx_w2).size w2.heap.size rfl ?_
              intro gz cz w7 own7 hgr7 _ _
              have hx7 : Hid (Ext w w7) := ext_push (hx9.out.trans hx_w2) (hx_w2.own hO9.out) hgr7
              rw [← bys_append] at own7
              replace own7 := hid own7
              have I7 : (fun w' : World => w'.cell? ⟨b5, 0, none⟩ = some (.int .i64 z) ∧ w'.cell? ⟨r, 0, none⟩ = some (.int .i64 size)) w7 := ⟨hgr7.cell (hx_w2.cell b0) hfar.out, hx7.out.cell c0⟩
              clear hgr7
              refine hK _ _ ⟨fun _ => I7, ?_⟩
              clear hK K
              try simp only [Act.put, List.getElem_toArray, List.getElem_cons_zero, List.getElem_cons_succ, List.setIfInBounds_toArray, List.set_cons_zero, List.set_cons_succ]
              refine J_one 11 rfl (by kernel_rfl) (fun K hK => ?_)
              go_simp
              refine hK _ _ ⟨fun _ => I7, ?_⟩
              clear hK K
              try simp only [Act.put, List.setIfInBounds_toArray, List.set_cons_zero, List.set_cons_succ]
              refine J_done (by kernel_rfl) (OnlyOn.normal ?_)
              go_wp2_with fail
              go_roundw
              case rel => exact ⟨k + 1, by omega, by go_num, by rw [hrel2.out, List.length_append]; exact own7, hx7⟩
              case measure => simp [intOf]; omega
      · obtain rfl : k = l.length := by omega
        have hkn : ¬ (l.length : Int) < (l.length : Int) := by omega
        rw [List.take_length] at hO
        go_wp2
        go_ret
        exact ⟨_, rfl, by have h := hO.out; simp only [List.length_append] at h; unfold fileB; rw [List.length_append]; exact h, hx.out⟩
end Go.Proofs.Ytcgjhloiokpicaa
