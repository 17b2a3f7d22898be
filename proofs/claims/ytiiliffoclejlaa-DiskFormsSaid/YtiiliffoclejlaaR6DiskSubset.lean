/- The law DiskSubset: true. -/
import Derived.Test.YtiiliffoclejlaaR6DiskTorn
namespace Go.AM
open Go.Proofs
set_option linter.unusedVariables false
set_option linter.unusedSimpArgs false
set_option maxRecDepth 100000
attribute [-simp] ByteArray.size_eq_zero_iff
abbrev encN : Int → List Value := fun n => [.int .i64 n]
theorem Rows.set {α : Type} {enc : α → List Value} {sz : Nat} {H : Heap} {v : Value} {xs : List α} (h : Rows enc sz H v xs) {k : Nat} (hk : NotIn v k) (f : Option Blk) : Rows enc sz (H.set k f) v xs := by
  obtain ⟨l, p, c, rfl, hp⟩ := h
  refine ⟨l, p, c, rfl, hp.imp id ?_⟩
  rintro ⟨b, o, rfl, h2, h3, h4⟩
  exact ⟨b, o, rfl, h2, h3, fun i hi j hj => by rw [cell_set_ne (fun e => hk _ _ _ rfl e.symm)]; exact h4 i hi j hj⟩
theorem Rows.notIn {α : Type} {enc : α → List Value} {sz : Nat} {H : Heap} {v : Value} {xs : List α} (h : Rows enc sz H v xs) {k : Nat} (hk : H.next ≤ k) : NotIn v k := by
  obtain ⟨l, p, c, rfl, hp⟩ := h
  intro a n c' e
  rcases hp with ⟨rfl, _⟩ | ⟨b, o, rfl, hb, _⟩
  · cases e
  · cases e; simp only; omega
theorem DkR.set {H : Heap} {v : Value} {d : Dk} (h : DkR H v d) {k : Nat} (hk : FarD v k) (f : Option Blk) : DkR (H.set k f) v d := by
  obtain ⟨s, c, rfl, h1, h2⟩ := h
  obtain ⟨s', c', e, k1, k2⟩ := hk
  cases e
  exact ⟨_, _, rfl, h1.set k1 f, h2.set k2 f⟩
theorem DkR.far {H : Heap} {v : Value} {d : Dk} (h : DkR H v d) {k : Nat} (hk : H.next ≤ k) : FarD v k := by
  obtain ⟨s, c, rfl, h1, h2⟩ := h
  exact ⟨_, _, rfl, h1.notIn hk, h2.notIn hk⟩
def wrs (ats : List Int) : Nat → List Img
  | 0 => []
  | i + 1 => wrs ats i ++ [((ats[i]?.getD 0) % 64, sec (1 + (i : Int)))]
def kept (keep : ByteArray) (ats : List Int) : Nat → List Img
  | 0 => []
  | i + 1 => if oddK keep i = true then kept keep ats i ++ [((ats[i]?.getD 0) % 64, sec (1 + (i : Int)))] else kept keep ats i
theorem wrs_len (ats : List Int) : ∀ i, (wrs ats i).length = i
  | 0 => rfl
  | i + 1 => by rw [wrs, List.length_append, wrs_len ats i]; rfl
theorem kept_len (keep : ByteArray) (ats : List Int) : ∀ i, (kept keep ats i).length ≤ i
  | 0 => Nat.le_refl _
  | i + 1 => by
    have := kept_len keep ats i
    rw [kept]; split
    · rw [List.length_append]; simp; omega
    · omega
theorem wrs_get (ats : List Int) : ∀ (n i : Nat), i < n → (wrs ats n)[i]? = some ((ats[i]?.getD 0) % 64, sec (1 + (i : Int)))
  | 0, i, h => by omega
  | n + 1, i, h => by
    rw [wrs]
    by_cases hi : i < n
    · rw [List.getElem?_append_left (by rw [wrs_len]; exact hi)]; exact wrs_get ats n i hi
    · obtain rfl : i = n := by omega
      rw [List.getElem?_append_right (by rw [wrs_len]; exact Nat.le_refl _), wrs_len, Nat.sub_self]; rfl
/-- A crash is what the writes that last do. -/
theorem crash_kept (keep : ByteArray) (ats : List Int) (S : List ByteArray) (n : Nat) : ∀ i, i ≤ n → crN keep (-1) 0 S (wrs ats n) i = applyW S (kept keep ats i)
  | 0, _ => rfl
  | i + 1, h => by
    simp only [crN]
    rw [wrs_get ats n i (by omega), crash_kept keep ats S n i (by omega)]
    simp only [crStep]
    rw [if_neg (by omega), kept]
    split
    · unfold applyW; rw [List.foldl_append]; rfl
    · rfl
/-- Block k is a variable that holds a disk; the disk's memory is none of the two variables' blocks. -/
def VarD (lo : Nat) (G : Heap) (k : Nat) (d : Dk) : Prop := ∃ p n q m, BoxD G k (.slice p 394 n) (.slice q d.2.length m) ∧ DkR G (.agg #[.slice p 394 n, .slice q d.2.length m]) d ∧ FarD (.agg #[.slice p 394 n, .slice q d.2.length m]) lo ∧ FarD (.agg #[.slice p 394 n, .slice q d.2.length m]) (lo + 1)
theorem VarD.ext {lo k : Nat} {G G' : Heap} {d : Dk} (h : VarD lo G k d) (hE : Ext G G') : VarD lo G' k d := by
  obtain ⟨p, n, q, m, h1, h2, h3, h4⟩ := h; exact ⟨p, n, q, m, h1.ext hE, h2.ext hE, h3, h4⟩
theorem BoxD.setO {G : Heap} {k j : Nat} {s c : Value} (h : BoxD G k s c) (hj : k ≠ j) (f : Option Blk) : BoxD (G.set j f) k s c := ⟨h.lt, by rw [blk_set_ne hj]; exact h.is⟩
theorem VarD.other {lo k j : Nat} {G : Heap} {d : Dk} (h : VarD lo G k d) (hj : j = lo ∨ j = lo + 1) (hk : k ≠ j) (f : Option Blk) : VarD lo (G.set j f) k d := by
  obtain ⟨p, n, q, m, h1, h2, h3, h4⟩ := h
  exact ⟨p, n, q, m, h1.setO hk f, h2.set (by rcases hj with rfl | rfl <;> assumption) f, h3, h4⟩
/-- A disk laid into a variable. -/
theorem VarD.put {lo k : Nat} {G : Heap} {d : Dk} {p : Option Addr} {n : Nat} {q : Option Addr} {m : Nat} (hk : k = lo ∨ k = lo + 1) (hlt : k < G.next) (h : DkR G (.agg #[.slice p 394 n, .slice q d.2.length m]) d) (h3 : FarD (.agg #[.slice p 394 n, .slice q d.2.length m]) lo) (h4 : FarD (.agg #[.slice p 394 n, .slice q d.2.length m]) (lo + 1)) {B : Blk} (hro : B.ro = false) :
    VarD lo (G.set k (some ((B.put 0 (.slice p 394 n)).put 1 (.slice q d.2.length m)))) k d :=
  ⟨p, n, q, m, ⟨hlt, _, blk_set_self _ _ _, hro, rfl, rfl⟩, h.set (by rcases hk with rfl | rfl <;> assumption) _, h3, h4⟩
theorem subset_law (v : Value) (ats : List Int) (keep : ByteArray) (H : Heap) (hv : Rows encN 1 H v ats) : call K f_law2_DiskSubset [v, .string keep] H = some (.bool true, H) := by
  obtain ⟨p, c, rfl⟩ := hv.slice
  refine of_wpf (open_pure rfl fc_law2_DiskSubset rfl (Nat.le_of_ble_eq_true rfl) ?_)
  obtain ⟨_, G1, c1, E1, D1⟩ := new_ok H.roAll
  obtain ⟨_, G2, c2, E2, D2⟩ := new_ok G1
  obtain ⟨s5, t5, rfl, S5, T5⟩ := D1.ext E2
  obtain ⟨s6, t6, rfl, S6, T6⟩ := D2
  obtain ⟨p5, k5, rfl⟩ := S5.sliceN newD_len
  obtain ⟨q5, m5, rfl⟩ := T5.sliceN (n := 0) rfl
  obtain ⟨p6, k6, rfl⟩ := S6.sliceN newD_len
  obtain ⟨q6, m6, rfl⟩ := T6.sliceN (n := 0) rfl
  have D5 : DkR G2 (.agg #[.slice p5 394 k5, .slice q5 0 m5]) newD := ⟨_, _, rfl, S5, T5⟩
  have D6 : DkR G2 (.agg #[.slice p6 394 k6, .slice q6 0 m6]) newD := ⟨_, _, rfl, S6, T6⟩
  obtain ⟨A, hA⟩ : ∃ A, A = (((G2.add (rowBlk 2 [.slice none 0 0, .slice none 0 0])).add (rowBlk 2 [.slice none 0 0, .slice none 0 0])).set G2.next (some (((rowBlk 2 [.slice none 0 0, .slice none 0 0]).put 0 (.slice p5 394 k5)).put 1 (.slice q5 0 m5)))).set (G2.next + 1) (some (((rowBlk 2 [.slice none 0 0, .slice none 0 0]).put 0 (.slice p6 394 k6)).put 1 (.slice q6 0 m6))) := ⟨_, rfl⟩
  have EA : Ext G2 A := by rw [hA]; exact ((((Ext.refl _).add _).add _).set (Nat.le_refl _) _).set (by omega) _
  have nA : A.next = G2.next + 2 := by rw [hA]; simp
  have x1 : ¬ G2.next = G2.next + 1 := by omega
  obtain ⟨lo, hlo⟩ : ∃ lo, lo = G2.next := ⟨_, rfl⟩
  have V5 : VarD lo A lo (newD.1, wrs ats 0) := by
    subst hlo
    refine ⟨p5, k5, q5, m5, ⟨by omega, _, by rw [hA, blk_set_ne (by omega), blk_set_self], rfl, rfl, rfl⟩, D5.ext EA, D5.far (Nat.le_refl _), D5.far (by omega)⟩
  have V6 : VarD lo A (lo + 1) (newD.1, kept keep ats 0) := by
    subst hlo
    refine ⟨p6, k6, q6, m6, ⟨by omega, _, by rw [hA, blk_set_self], rfl, rfl, rfl⟩, D6.ext EA, D6.far (Nat.le_refl _), D6.far (by omega)⟩
  have hlim := hv.lim
  have hE0 := E1.trans (E2.trans EA)
  have hGn := (E1.trans E2).next
  simp only [next_roAll] at hGn
  simp [awake2_ok, c1, c2, x1, ← hA]
  rw [← hlo]
  refine wp_nxt (wp_for (fun d e G => ∃ i : Nat, d = 40 - i ∧ i ≤ 40 ∧ i ≤ ats.length ∧ (∀ b, b < H.next → G.blk b = H.roAll.blk b) ∧ lo + 2 ≤ G.next ∧ VarD lo G lo (newD.1, wrs ats i) ∧ VarD lo G (lo + 1) (newD.1, kept keep ats i) ∧ dOk (newD.1, wrs ats i) = true ∧ dOk (newD.1, kept keep ats i) = true ∧ e 0 = .slice p ats.length c ∧ e 1 = .string keep ∧ e 5 = .pointer (some ⟨lo, 0, none⟩) ∧ e 6 = .pointer (some ⟨lo + 1, 0, none⟩) ∧ e 7 = .int .i64 (i : Int)) 40 ⟨0, by omega, by omega, by omega, fun b hb => hE0.blk b (by simpa using hb), by omega, V5, V6, newD_ok, newD_ok, by simp, by simp, by simp, by simp, by simp⟩ ?_)
  rintro d e G ⟨i, rfl, hi, hia, hlow, hlt, V5, V6, ok5, ok6, h0, h1, h5, h6, h7⟩
  by_cases hgo : i < 40 ∧ i < ats.length
  · obtain ⟨hi40, hil⟩ := hgo
    obtain ⟨ba, oa, hp, hba, ka⟩ := hv.at1 hil
    have hx : ats[i]?.getD 0 = ats[i] := by rw [List.getElem?_eq_getElem hil]; rfl
    have hw9 : wrs ats (i + 1) = wrs ats i ++ [(ats[i] % 64, sec (1 + (i : Int)))] := by rw [wrs, hx]
    have hk9 : kept keep ats (i + 1) = if oddK keep i = true then kept keep ats i ++ [(ats[i] % 64, sec (1 + (i : Int)))] else kept keep ats i := by rw [kept, hx]
    generalize ats[i] = x at *
    subst hp
    simp at ka
    have kG : G.cell ba (oa + i) = some (.int .i64 x) := by
      have : G.cell ba (oa + i) = H.roAll.cell ba (oa + i) := by simp only [Heap.cell, hlow ba hba]
      rw [this, cell_roAll, ka]
    obtain ⟨w, hw, hw1, hw2⟩ : ∃ w : Nat, bits .and .i64 x 63 = (w : Int) ∧ x % 64 = (w : Int) ∧ w < 64 := ⟨(x % 64).toNat, by rw [and63]; omega, by omega, by omega⟩
    rw [hw1] at hw9 hk9
    have w1 : IntKind.i64.wrap (1 + (i : Int)) = 1 + (i : Int) := wrap_i64 (by omega) (by omega)
    have w2 := wrap_succ (i := i) (by omega)
    have g1 : (i : Int) < 40 := by omega
    have hGn2 : H.next ≤ lo := by omega
    obtain ⟨P5, N5, Q5, M5, B5, D5, F50, F51⟩ := id V5
    obtain ⟨B8, hB8⟩ : ∃ B8, B8 = (((rowBlk 3 [.bool false, .int .i64 0, .string ⟨#[]⟩]).put 0 (.bool false)).put 1 (.int .i64 (w : Int))).put 2 (.string (sec (1 + (i : Int)))) := ⟨_, rfl⟩
    obtain ⟨A1, hA1⟩ : ∃ A1, A1 = (G.add (rowBlk 3 [.bool false, .int .i64 0, .string ⟨#[]⟩])).set G.next (some B8) := ⟨_, rfl⟩
    have EA1 : Ext G A1 := by rw [hA1]; exact ((Ext.refl _).add _).set (Nat.le_refl _) _
    have nA1 : A1.next = G.next + 1 := by rw [hA1]; simp
    have b8 : A1.blk G.next = some B8 := by rw [hA1, blk_set_self]
    have b80 : B8.at_ 0 = some (.bool false) := by subst hB8; simp
    have b81 : B8.at_ 1 = some (.int .i64 (w : Int)) := by subst hB8; simp
    have b82 : B8.at_ 2 = some (.string (sec (1 + (i : Int)))) := by subst hB8; simp
    obtain ⟨f1, f2, f3⟩ := do_write ok5 (k := w) (t := sec (1 + (i : Int))) (by omega) (sec_size _) (by simp only; rw [wrs_len]; omega)
    obtain ⟨_, G3, c3, E3, v9, rfl, o3⟩ := do_ok _ _ false (w : Int) (sec (1 + (i : Int))) A1 (D5.ext EA1)
    rw [f1] at o3
    rw [f2] at c3
    have hd9 : ((newD.1, wrs ats i).1, (newD.1, wrs ats i).2 ++ [((w : Int), sec (1 + (i : Int)))]) = (newD.1, wrs ats (i + 1)) := by rw [hw9]
    rw [hd9] at o3 f3
    obtain ⟨p9, n9, q9, m9, A3, rfl, hA3, n3, X3, F3⟩ := stage1 o3.dk newD_len (n := (newD.1, wrs ats (i + 1)).2.length) rfl
    obtain ⟨c90, c91, D9⟩ := F3 A3 (Ext.refl _)
    have E13 := EA1.trans (E3.trans X3)
    have e3 := E3.next
    have B5' := B5.ext E13
    obtain ⟨Bk, hBk, hrk, hk0, hk1⟩ := B5'.is
    have ck0 := B5'.c0
    have ck1 := B5'.c1
    have a50 := (B5.ext EA1).c0
    have a51 := (B5.ext EA1).c1
    obtain ⟨A4, hA4⟩ : ∃ A4, A4 = A3.set lo (some ((Bk.put 0 (.slice p9 394 n9)).put 1 (.slice q9 (newD.1, wrs ats (i + 1)).2.length m9))) := ⟨_, rfl⟩
    have V5' : VarD lo A4 lo (newD.1, wrs ats (i + 1)) := by
      rw [hA4]; exact VarD.put (.inl rfl) (by omega) D9 (o3.far (by omega)) (o3.far (by omega)) hrk
    have V6' : VarD lo A4 (lo + 1) (newD.1, kept keep ats i) := by
      rw [hA4]; exact (V6.ext E13).other (.inl rfl) (by omega) _
    have low4 : ∀ b, b < H.next → A4.blk b = H.roAll.blk b := fun b hb => by
      rw [hA4, blk_set_ne (by omega), E13.blk b (by omega)]; exact hlow b hb
    have n4 : A4.next = A3.next := by rw [hA4]; rfl
    have b8' : A4.blk G.next = some B8 := by rw [hA4, blk_set_ne (by omega), (E3.trans X3).blk _ (by omega)]; exact b8
    have c8 : ∀ o, A4.cell G.next o = B8.at_ o := fun o => by simp only [Heap.cell, b8']
    have c8' : ∀ o, A1.cell G.next o = B8.at_ o := fun o => by simp only [Heap.cell, b8]
    have z1 : ¬ ba = G.next := by omega
    simp only at a50 a51 ck0 ck1 hA3 c90 c91 hA4 c3
    by_cases ho : oddK keep i = true
    · have ho' := ho
      simp only [oddK, Bool.and_eq_true, decide_eq_true_eq] at ho'
      rw [if_pos ho] at hk9
      obtain ⟨P6, N6, Q6, M6, B6, D6, F60, F61⟩ := id V6'
      obtain ⟨g1', g2, g3⟩ := do_write ok6 (k := w) (t := sec (1 + (i : Int))) (by omega) (sec_size _) (by have := kept_len keep ats i; simp only; omega)
      obtain ⟨_, G5, c5, E5, v11, rfl, o5⟩ := do_ok _ _ false (w : Int) (sec (1 + (i : Int))) A4 D6
      rw [g1'] at o5
      rw [g2] at c5
      have hd11 : ((newD.1, kept keep ats i).1, (newD.1, kept keep ats i).2 ++ [((w : Int), sec (1 + (i : Int)))]) = (newD.1, kept keep ats (i + 1)) := by rw [hk9]
      rw [hd11] at o5 g3
      obtain ⟨p11, n11, q11, m11, A5, rfl, hA5, n5, X5, F5⟩ := stage1 o5.dk newD_len (n := (newD.1, kept keep ats (i + 1)).2.length) rfl
      obtain ⟨c110, c111, D11⟩ := F5 A5 (Ext.refl _)
      have E45 := E5.trans X5
      have e5 := E5.next
      have B6' := B6.ext E45
      obtain ⟨Bj, hBj, hrj, hj0, hj1⟩ := B6'.is
      have cj0 := B6'.c0
      have cj1 := B6'.c1
      have a60 := B6.c0
      have a61 := B6.c1
      obtain ⟨A6, hA6⟩ : ∃ A6, A6 = A5.set (lo + 1) (some ((Bj.put 0 (.slice p11 394 n11)).put 1 (.slice q11 (newD.1, kept keep ats (i + 1)).2.length m11))) := ⟨_, rfl⟩
      have V6'' : VarD lo A6 (lo + 1) (newD.1, kept keep ats (i + 1)) := by
        rw [hA6]; exact VarD.put (.inr rfl) (by omega) D11 (o5.far (by omega)) (o5.far (by omega)) hrj
      have V5'' : VarD lo A6 lo (newD.1, wrs ats (i + 1)) := by
        rw [hA6]; exact (V5'.ext E45).other (.inr rfl) (by omega) _
      have low6 : ∀ b, b < H.next → A6.blk b = H.roAll.blk b := fun b hb => by
        rw [hA6, blk_set_ne (by omega), E45.blk b (by omega)]; exact low4 b hb
      simp only at a60 a61 cj0 cj1 hA5 c110 c111 hA6 c5
      have ha1 := and1_u8 _ (bt_range keep i).1 (bt_range keep i).2
      simp [c_law2_DiskSubset_l17, h0, h1, h5, h6, h7, g1, hil, kG, z1, hw, w1, sector_ok, run_regd_tr, finD_some, Chk, wanted, ← hB8, ← hA1, a50, a51, c8', b80, b81, b82, c3, ← hA3, c90, c91, hBk, hrk, ck0, ck1, ← hA4, ho', ha1, a60, a61, c8, c5, ← hA5, c110, c111, hBj, hrj, cj0, cj1, ← hA6]
      exact ⟨40 - (i + 1), by omega, i + 1, rfl, by omega, hil, fun b hb => by rw [← blk_roAll]; exact low6 b hb, by rw [hA6]; simp only [next_set]; omega, V5'', V6'', f3, g3, w2⟩
    · rw [if_neg ho] at hk9
      have fin : ∃ d', d' < 40 - i ∧ ∃ i_1, d' = 40 - i_1 ∧ i_1 ≤ 40 ∧ i_1 ≤ ats.length ∧ (∀ b, b < H.next → A4.blk b = Option.map (fun B => ({ esz := B.esz, ro := true, at_ := B.at_ } : Blk)) (H.blk b)) ∧ lo + 2 ≤ A4.next ∧ VarD lo A4 lo (newD.fst, wrs ats i_1) ∧ VarD lo A4 (lo + 1) (newD.fst, kept keep ats i_1) ∧ dOk (newD.fst, wrs ats i_1) = true ∧ dOk (newD.fst, kept keep ats i_1) = true ∧ IntKind.i64.wrap ((i : Int) + 1) = (i_1 : Int) :=
        ⟨40 - (i + 1), by omega, i + 1, rfl, by omega, hil, fun b hb => by rw [← blk_roAll]; exact low4 b hb, by omega, V5', by rw [hk9]; exact V6', f3, by rw [hk9]; exact ok6, w2⟩
      by_cases hks : i < keep.size
      · have hbt : ¬ bt keep i % 2 = 1 := fun hh => ho (by simp [oddK, hks, hh])
        have ha1 := and1_u8 _ (bt_range keep i).1 (bt_range keep i).2
        simp [c_law2_DiskSubset_l17, h0, h1, h5, h6, h7, g1, hil, kG, z1, hw, w1, sector_ok, run_regd_tr, finD_some, Chk, wanted, ← hB8, ← hA1, a50, a51, c8', b80, b81, b82, c3, ← hA3, c90, c91, hBk, hrk, ck0, ck1, ← hA4, hks, hbt, ha1]
        exact fin
      · simp [c_law2_DiskSubset_l17, h0, h1, h5, h6, h7, g1, hil, kG, z1, hw, w1, sector_ok, run_regd_tr, finD_some, Chk, wanted, ← hB8, ← hA1, a50, a51, c8', b80, b81, b82, c3, ← hA3, c90, c91, hBk, hrk, ck0, ck1, ← hA4, hks]
        exact fin
  · obtain ⟨P5, N5, Q5, M5, B5, D5, F50, F51⟩ := id V5
    obtain ⟨f1, f2, f3⟩ := do_crash ok5 keep (-1) (at_ := 0) ⟨by omega, by omega⟩
    obtain ⟨_, G7, c7, E7, v13, rfl, o7⟩ := crash_ok _ _ keep (-1) 0 G D5
    rw [f1] at o7
    rw [f2] at c7
    obtain ⟨p7, n7, q7, m7, A7, rfl, hA7, k7, X7, F7⟩ := stage1 o7.dk ((crN_len _ _ _ _ _ _).trans newD_len) (n := 0) rfl
    have V6' := V6.ext (E7.trans X7)
    obtain ⟨P6, N6, Q6, M6, B6, D6, F60, F61⟩ := id V6'
    obtain ⟨g1, g2, g3⟩ := do_flush ok6
    obtain ⟨_, G8, c8, E8, v15, rfl, o8⟩ := do_ok _ _ true 0 ⟨#[]⟩ A7 D6
    rw [g1] at o8
    rw [g2] at c8
    obtain ⟨p8, n8, q8, m8, A8, rfl, hA8, k8, X8, F8⟩ := stage1 o8.dk ((applyW_len _ _).trans newD_len) (n := 0) rfl
    obtain ⟨a80, a81, D8⟩ := F8 A8 (Ext.refl _)
    obtain ⟨a70, a71, D7⟩ := F7 A8 (E8.trans X8)
    have hcr := crash_kept keep ats newD.1 i i (Nat.le_refl _)
    have hwl := wrs_len ats i
    simp only at D7 D8
    rw [hwl, hcr] at D7
    have sd := sameDisk_ok _ _ _ _ A8 D7 D8
    rw [decide_eq_true rfl] at sd
    have a50 := B5.c0
    have a51 := B5.c1
    have a60 := B6.c0
    have a61 := B6.c1
    simp only at a50 a51 a60 a61 c7 c8 hA7 hA8
    by_cases hil : i < ats.length
    · have g1 : ¬ (i : Int) < 40 := by omega
      simp [c_law2_DiskSubset_l17, h0, h1, h5, h6, h7, g1, hil, a50, a51, c7, ← hA7, a60, a61, c8, ← hA8, a70, a71, a80, a81, sd]
    · simp [c_law2_DiskSubset_l17, h0, h1, h5, h6, h7, hil, a50, a51, c7, ← hA7, a60, a61, c8, ← hA8, a70, a71, a80, a81, sd]
end Go.AM
