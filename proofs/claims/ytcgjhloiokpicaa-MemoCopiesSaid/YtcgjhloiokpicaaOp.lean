/-
  Which bytes are a file: plain.
-/
import Derived.Test.YtcgjhloiokpicaaNd
namespace Go.Proofs.Ytcgjhloiokpicaa
open Go.RowKit Go.Shelf
set_option linter.unusedVariables false
set_option linter.unusedSimpArgs false
def leV : List Int → Int
  | [] => 0
  | b :: l => b + 256 * leV l
def num (L : List Int) (i m : Nat) : Int := leV ((L.drop i).take m)
def cut (L : List Int) (i m : Nat) : List Int := (L.drop i).take m
theorem leV_le4 {n : Int} (h0 : 0 ≤ n) (h1 : n ≤ 2147483647) : leV (le4 n) = n := by
  simp only [le4, leV]
  omega
theorem leV_le2 {n : Int} (h0 : 0 ≤ n) (h1 : n ≤ 65535) : leV [n % 256, n / 256 % 256] = n := by
  simp only [leV]
  omega
theorem cut_mid (A B C : List Int) {a m : Nat} (ha : A.length = a) (hm : B.length = m) : cut (A ++ (B ++ C)) a m = B := by
  unfold cut
  rw [List.drop_left' ha, List.take_left' hm]
theorem num_mid (A B C : List Int) {a m : Nat} (ha : A.length = a) (hm : B.length = m) : num (A ++ (B ++ C)) a m = leV B := congrArg leV (cut_mid A B C ha hm)
theorem strI_txt (s : ByteArray) : strI (txt s) = s := by
  have e : (strI (txt s)).data.toList = s.data.toList := by
    show (strOfNums (txt s)).data.toList = _
    rw [show (strOfNums (txt s)).data.toList = (txt s).map (fun n => UInt8.ofNat n.toNat) from rfl]
    unfold txt
    rw [List.map_map]
    conv => rhs; rw [← List.map_id s.data.toList]
    apply List.map_congr_left
    intro b _
    simp
  have : (strI (txt s)).data = s.data := Array.toList_inj.1 e
  cases h : strI (txt s)
  cases s
  simp_all
section
variable {size : Int} {l : List En}
theorem file_len (hs : 16 ≤ size ∧ size ≤ 256) (hG : Good size l) : ((fileB size l).length : Int) = endI l * size := by
  have := ahead_len hs hG (Nat.le_refl _)
  rw [List.take_length, (beg_good hG).2.1] at this
  exact this
theorem file_head (hs : 16 ≤ size ∧ size ≤ 256) (hG : Good size l) : num (fileB size l) 0 4 = endI l ∧ num (fileB size l) 4 2 = size := by
  have he := (good_facts hG).2.2.2
  constructor
  · have : fileB size l = [] ++ (le4 (endI l) ++ ([size % 256, size / 256 % 256] ++ List.replicate (size.toNat - (le4 (endI l) ++ [size % 256, size / 256 % 256]).length) 0 ++ bodyB size l)) := by
      unfold fileB hdB pad
      simp
    rw [this, num_mid (a := 0) (m := 4) [] (le4 (endI l)) _ rfl rfl, leV_le4 (by omega) (by omega)]
  · have : fileB size l = le4 (endI l) ++ ([size % 256, size / 256 % 256] ++ (List.replicate (size.toNat - (le4 (endI l) ++ [size % 256, size / 256 % 256]).length) 0 ++ bodyB size l)) := by
      unfold fileB hdB pad
      simp
    rw [this, num_mid (a := 4) (m := 2) (le4 (endI l)) _ _ rfl rfl, leV_le2 (by omega) (by omega)]
theorem file_at (hs : 16 ≤ size ∧ size ≤ 256) (hG : Good size l) {k : Nat} (hk : k < l.length) {a : Nat} (ha : (a : Int) = (eth l k).block * size) :
    num (fileB size l) a 4 = (if (eth l k).kind = 0 then 0 else 1) ∧ num (fileB size l) (a + 4) 4 = (eth l k).blocks ∧ ((eth l k).kind ≠ 0 → num (fileB size l) (a + 8) 4 = ((eth l k).s.size : Int) ∧ cut (fileB size l) (a + 12) (eth l k).s.size = txt (eth l k).s) := by
  obtain ⟨e, fm, g1, gok, g2, g3, g4⟩ := good_at hG hk
  have gf := (good_facts hG).2.1 k hk
  have hal := ahead_len hs hG (Nat.le_of_lt hk)
  rw [(beg_good hG).1 k hk, ← ha] at hal
  have hl0 : (hdB size l ++ bodyB size (l.take k)).length = a := by omega
  have hsz : (eth l k).kind ≠ 0 → ((eth l k).s.size : Int) ≤ 2048 := by
    rcases gok.2 with ⟨h3, h4⟩ | ⟨h3, h4, h5⟩
    · intro h; exact absurd h3 h
    · intro _; omega
  have hf : fileB size l = (hdB size l ++ bodyB size (l.take k)) ++ (entB size (eth l k) ++ bodyB size (l.drop (k + 1))) := by
    conv => lhs; rw [fileB, split_at hk]
    rw [bodyB_append, bodyB]
    rw [show hdB size (List.take k l ++ eth l k :: List.drop (k + 1) l) = hdB size l by rw [← split_at hk]]
    simp
  generalize hA : hdB size l ++ bodyB size (l.take k) = A at *
  generalize bodyB size (l.drop (k + 1)) = R at *
  generalize eth l k = x at *
  obtain ⟨Z, hZ⟩ : ∃ Z, entB size x = preE x ++ Z := ⟨_, rfl⟩
  rw [hf, hZ]
  generalize hkd : (if x.kind = 0 then (0 : Int) else 1) = kd
  have hkr : 0 ≤ kd ∧ kd ≤ 1 := by rw [← hkd]; split <;> omega
  have hp : preE x = le4 kd ++ (le4 x.blocks ++ (if x.kind = 0 then [] else le4 x.s.size ++ txt x.s)) := by rw [← hkd]; rfl
  rw [hp]
  clear hp hf hal hA hZ
  generalize hE : (if x.kind = 0 then [] else le4 x.s.size ++ txt x.s) = E
  refine ⟨?_, ?_, fun hx => ?_⟩
  · rw [show A ++ (le4 kd ++ (le4 x.blocks ++ E) ++ Z ++ R) = A ++ (le4 kd ++ (le4 x.blocks ++ (E ++ (Z ++ R)))) by simp]
    rw [num_mid (m := 4) A (le4 kd) _ hl0 rfl, leV_le4 (by omega) (by omega)]
  · rw [show A ++ (le4 kd ++ (le4 x.blocks ++ E) ++ Z ++ R) = (A ++ le4 kd) ++ (le4 x.blocks ++ (E ++ (Z ++ R))) by simp]
    rw [num_mid (a := a + 4) (m := 4) (A ++ le4 kd) (le4 x.blocks) _ (by rw [List.length_append, hl0]; rfl) rfl, leV_le4 (by omega) (by omega)]
  · rw [if_neg hx] at hE
    subst hE
    constructor
    · rw [show A ++ (le4 kd ++ (le4 x.blocks ++ (le4 x.s.size ++ txt x.s)) ++ Z ++ R) = (A ++ le4 kd ++ le4 x.blocks) ++ (le4 x.s.size ++ (txt x.s ++ (Z ++ R))) by simp]
      rw [num_mid (a := a + 8) (m := 4) (A ++ le4 kd ++ le4 x.blocks) (le4 x.s.size) _ (by simp [hl0, le4]) rfl, leV_le4 (by omega) (by have := hsz hx; omega)]
    · rw [show A ++ (le4 kd ++ (le4 x.blocks ++ (le4 x.s.size ++ txt x.s)) ++ Z ++ R) = (A ++ le4 kd ++ le4 x.blocks ++ le4 x.s.size) ++ (txt x.s ++ (Z ++ R)) by simp]
      exact cut_mid (A ++ le4 kd ++ le4 x.blocks ++ le4 x.s.size) (txt x.s) _ (by simp [hl0, le4]) (txt_len _)
end
/-- A file of these bytes. -/
def Opens (L : List Int) (size : Int) (l : List En) : Prop := szB size = true ∧ Good size l ∧ fileB size l = L
/-- What has been read up to block q of n. -/
def OpInv (size n : Int) (L : List Int) (q : Int) (l : List En) : Prop := ∃ f, Run size 1 false l q f ∧ q ≤ n ∧ (f = true → q < n) ∧ ∀ l', Good size l' → fileB size l' = L → l = l'.take l.length
section
variable {size n q : Int} {L : List Int} {l : List En}
theorem op_start (h1 : 1 ≤ n) : OpInv size n L 1 [] := ⟨false, ⟨rfl, rfl⟩, h1, by simp, fun _ _ _ => by simp⟩
theorem op_len (h : OpInv size n L q l) : 1 ≤ q ∧ q ≤ n ∧ (l.length : Int) ≤ q - 1 := by
  obtain ⟨f, h1, h2, h3, h4⟩ := h
  have := run_le h1
  omega
theorem run_end {b e e' : Int} {f f1 f2 : Bool} (h : Run size b f l e f1) (h' : Run size b f l e' f2) : e = e' := by
  rw [← (run_beg h).2, ← (run_beg h').2]
/-- What the file's next entry says. -/
theorem op_next (hs : 16 ≤ size ∧ size ≤ 256) (h : OpInv size n L q l) (hq : q < n) (hn : num L 0 4 = n) {a : Nat} (ha : (a : Int) = q * size) {l' : List En} (hG : Good size l') (hL : fileB size l' = L) :
    ∃ x, l ++ [x] = l'.take (l.length + 1) ∧ x.block = q ∧ okE size x ∧ num L a 4 = (if x.kind = 0 then 0 else 1) ∧ num L (a + 4) 4 = x.blocks ∧ (x.kind ≠ 0 → num L (a + 8) 4 = (x.s.size : Int) ∧ cut L (a + 12) x.s.size = txt x.s) ∧ q + x.blocks ≤ n ∧ (x.kind = 0 → lastF l = false ∧ q + x.blocks < n) := by
  obtain ⟨f, h1, h2, h3, h4⟩ := h
  have hl := h4 l' hG hL
  have he : endI l' = n := by rw [← (file_head hs hG).1, hL, hn]
  have hk : l.length < l'.length := by
    rcases Nat.lt_or_ge l.length l'.length with hlt | hge
    · exact hlt
    · rw [List.take_of_length_le hge] at hl
      subst hl
      obtain ⟨e, g1, g2⟩ := hG
      have := run_end h1 g1
      have := end_run g1 g2
      omega
  obtain ⟨e, fm, g1, gok, g2, g3, g4⟩ := good_at hG hk
  rw [← hl] at g1
  have hb := run_end g1 h1
  have gf := (good_facts hG).2.1 _ hk
  have gl := (good_facts hG).2.2.1 _ hk
  have hat := file_at hs hG hk (a := a) (by rw [hb]; exact ha)
  rw [hL] at hat
  obtain ⟨e', g5, g6⟩ := hG
  have hee := end_run g5 g6
  have hsp : Run size 1 false (l'.take l.length ++ (eth l' l.length :: l'.drop (l.length + 1))) e' false := by rw [← split_at hk]; exact g5
  have hle := run_le g3
  have hq' : e = e' := by
    have e1 := run_append.1 hsp
    obtain ⟨m, fm', r1, r2⟩ := e1
    rw [← hl] at r1
    have hm := run_end r1 h1
    subst hm
    have r3 := r2.2.2.2
    have hb2 : (eth l' l.length).block = m := r2.1
    rw [← hb2] at r3
    exact (run_end (f := (eth l' l.length).kind == 0) g3 r3)
  refine ⟨eth l' l.length, ?_, hb, gok, hat.1, hat.2.1, hat.2.2, by rw [hb] at hle; omega, fun h0 => ⟨?_, ?_⟩⟩
  · conv => lhs; rw [hl]
    rw [List.length_take, Nat.min_eq_left (Nat.le_of_lt hk), List.take_add_one, List.getElem?_eq_getElem hk, ← eth_get hk]
    rfl
  · rw [run_lastF' g1]
    cases fm with
    | false => rfl
    | true => exact absurd h0 (g2 rfl)
  · have hne : (l'.drop (l.length + 1)).length ≠ 0 := by
      have := gl h0
      rw [List.length_drop]
      omega
    rw [hb] at hle
    omega
theorem op_fail (hs : 16 ≤ size ∧ size ≤ 256) (h : OpInv size n L q l) (hq : q < n) (hn : num L 0 4 = n) (hz : num L 4 2 = size) {a : Nat} (ha : (a : Int) = q * size)
    (hbad : num L (a + 4) 4 < 1 ∨ n - q < num L (a + 4) 4 ∨ (num L a 4 ≠ 0 ∧ num L a 4 ≠ 1) ∨ (num L a 4 ≠ 0 ∧ (2048 < num L (a + 8) 4 ∨ needS size (num L (a + 8) 4) ≠ num L (a + 4) 4)) ∨ (num L a 4 = 0 ∧ (lastF l = true ∨ q + num L (a + 4) 4 = n))) : ∀ size' l', ¬ Opens L size' l' := by
  rintro size' l' ⟨hb, hG, hL⟩
  have hs' := sz_bd hb
  obtain rfl : size' = size := by rw [← (file_head hs' hG).2, hL, hz]
  obtain ⟨x, -, hxb, hok, h1, h2, h3, h4, h5⟩ := op_next hs h hq hn ha hG hL
  rw [h1, h2] at hbad
  rcases hok with ⟨o1, ⟨o2, o3⟩ | ⟨o2, o3, o4⟩⟩
  · have h5 := h5 o2
    rw [if_pos o2] at hbad
    rcases hbad with b | b | b | b | b
    · omega
    · omega
    · omega
    · omega
    · rcases b.2 with b | b
      · rw [h5.1] at b; cases b
      · omega
  · have h3 := h3 (by omega)
    rw [if_neg (by omega), h3.1] at hbad
    rcases hbad with b | b | b | b | b
    · omega
    · omega
    · omega
    · omega
    · omega
/-- What is read as the next entry. -/
def rdE (L : List Int) (q : Int) (a : Nat) : En := if num L a 4 = 0 then ⟨q, num L (a + 4) 4, 0, ⟨#[]⟩⟩ else ⟨q, num L (a + 4) 4, 1, strI (cut L (a + 12) (num L (a + 8) 4).toNat)⟩
theorem op_step (hs : 16 ≤ size ∧ size ≤ 256) (h : OpInv size n L q l) (hq : q < n) (hn : num L 0 4 = n) {a : Nat} (ha : (a : Int) = q * size)
    (h1 : 1 ≤ num L (a + 4) 4) (h2 : num L (a + 4) 4 ≤ n - q) (h3 : num L a 4 ≠ 0 → num L (a + 8) 4 ≤ 2048 ∧ needS size (num L (a + 8) 4) = num L (a + 4) 4 ∧ ((strI (cut L (a + 12) (num L (a + 8) 4).toNat)).size : Int) = num L (a + 8) 4) (h4 : num L a 4 = 0 → lastF l = false ∧ q + num L (a + 4) 4 ≠ n) :
    OpInv size n L (q + num L (a + 4) 4) (l ++ [rdE L q a]) := by
  have hx := fun l' hG hL => op_next (l' := l') hs h hq hn ha hG hL
  obtain ⟨f, r1, r2, r3, r4⟩ := h
  have hlf := run_lastF' r1
  have hb : (rdE L q a).block = q ∧ (rdE L q a).blocks = num L (a + 4) 4 := by unfold rdE; split <;> exact ⟨rfl, rfl⟩
  have hok : okE size (rdE L q a) := by
    refine ⟨by rw [hb.2]; exact h1, ?_⟩
    unfold rdE
    split
    · exact .inl ⟨rfl, rfl⟩
    · rename_i h0
      obtain ⟨t1, t2, t3⟩ := h3 h0
      refine .inr ⟨rfl, ?_, ?_⟩
      · show (strI _).size ≤ 2048; omega
      · show num L (a + 4) 4 = needS size ((strI _).size : Int); rw [t3, t2]
  have hkd : (rdE L q a).kind = 0 → num L a 4 = 0 := by
    unfold rdE
    split
    · intro _; assumption
    · intro h; cases h
  refine ⟨(rdE L q a).kind == 0, run_append.2 ⟨q, f, r1, ?_⟩, by omega, fun h0 => ?_, fun l' hG hL => ?_⟩
  · refine ⟨hb.1, hok, fun hf h0 => ?_, ?_⟩
    · have := (h4 (hkd h0)).1
      rw [hlf, hf] at this
      cases this
    · rw [hb.2]; exact ⟨rfl, rfl⟩
  · have := (h4 (hkd (by simpa using h0))).2
    omega
  · obtain ⟨x, e0, e1, e2, e3, e4, e5, -, -⟩ := hx l' hG hL
    have : rdE L q a = x := by
      unfold rdE
      rcases e2 with ⟨o1, ⟨o2, o3⟩ | ⟨o2, o3, o4⟩⟩
      · rw [if_pos o2] at e3
        rw [if_pos e3, e4, ← e1]
        cases x
        simp_all
      · rw [if_neg (by omega)] at e3
        obtain ⟨t1, t2⟩ := e5 (by omega)
        rw [if_neg (by omega), e4, ← e1, t1, show ((x.s.size : Int)).toNat = x.s.size by omega, t2, strI_txt]
        cases x
        simp_all
    rw [this, List.length_append]
    exact e0
theorem op_last (hs : 16 ≤ size ∧ size ≤ 256) (h : OpInv size n L n l) (hn : num L 0 4 = n) (hn2 : n ≤ 4096) : Good size l ∧ ∀ l', Good size l' → fileB size l' = L → l' = l := by
  obtain ⟨f, r1, r2, r3, r4⟩ := h
  obtain rfl : f = false := by
    cases f with
    | false => rfl
    | true => have := r3 rfl; omega
  refine ⟨⟨n, r1, hn2⟩, fun l' hG hL => ?_⟩
  have hl := r4 l' hG hL
  have he : endI l' = n := by rw [← (file_head hs hG).1, hL, hn]
  rcases Nat.lt_or_ge l.length l'.length with hlt | hge
  · obtain ⟨e, fm, g1, gok, g2, g3, g4⟩ := good_at hG hlt
    rw [← hl] at g1
    have hb := run_end g1 r1
    have gf := (good_facts hG)
    have g5 := (beg_good hG)
    obtain ⟨e', g6, g7⟩ := hG
    have := end_run g6 g7
    have hsp : Run size 1 false (l'.take l.length ++ (eth l' l.length :: l'.drop (l.length + 1))) e' false := by rw [← split_at hlt]; exact g6
    obtain ⟨m, fm', q1, q2⟩ := run_append.1 hsp
    rw [← hl] at q1
    have hm := run_end q1 r1
    have := run_le q2
    simp only [List.length_cons] at this
    omega
  · rw [List.take_of_length_le hge] at hl
    exact hl.symm
end
end Go.Proofs.Ytcgjhloiokpicaa
