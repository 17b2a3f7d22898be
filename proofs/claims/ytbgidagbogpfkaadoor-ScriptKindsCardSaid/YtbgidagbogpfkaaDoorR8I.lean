import Derived.Test.YtbgidagbogpfkaaDoorR8H
/- The reference's ShowActs, whole. -/
namespace Go.AM
open Go.Proofs
set_option linter.unusedVariables false
set_option linter.unusedSimpArgs false
set_option maxRecDepth 100000
attribute [-simp] ByteArray.size_eq_zero_iff Heap.store Heap.row
def showS (xs : List Ac) : ByteArray × Int := if xs.length ≤ 256 ∧ xs.all mayB = true then (S (showL xs), 0) else (⟨#[]⟩, 2400)
def showV (xs : List Ac) : Value := .tuple #[.string (showS xs).1, .int .i64 (showS xs).2]
theorem showV_good {xs : List Ac} (h1 : xs.length ≤ 256) (h2 : xs.all mayB = true) : showV xs = .tuple #[.string (S (showL xs)), .int .i64 0] := by unfold showV showS; rw [if_pos ⟨h1, h2⟩]
theorem showV_bad {xs : List Ac} (h : ¬ (xs.length ≤ 256 ∧ xs.all mayB = true)) : showV xs = .tuple #[.string ⟨#[]⟩, .int .i64 2400] := by unfold showV showS; rw [if_neg h]
theorem rows_act {H : Heap} {p : Option Addr} {n c : Nat} {xs : List Ac} (h : Rows encA 10 H (.slice p n c) xs) {i : Nat} (hi : i < xs.length) : ∃ b o, p = some ⟨b, o, none⟩ ∧ b < H.next ∧ H.row b (o + i * 10) 10 = some (encA xs[i]) := by
  obtain ⟨_, b, o, h1, h2, h3⟩ := h.at_ hi
  exact ⟨b, o, h1, h2, row_of _ _ rfl fun j hj => h3 j hj⟩
theorem numsA_cast {a : Ac} (hm : MayP a) : ([.int .i64 a.kind, .int .i64 a.cut, .int .i64 a.at_, .int .i64 (a.torn + 1)] : List Value) = (numsA a).map fun n => .int .i64 (n : Int) := by
  have h1 := hm.kind; have h2 := hm.cut; have h3 := hm.at_; have h4 := hm.torn
  simp only [numsA, List.map_cons, List.map_nil]
  rw [Int.toNat_of_nonneg h1.1, Int.toNat_of_nonneg h2.1, Int.toNat_of_nonneg h3.1, Int.toNat_of_nonneg (by omega)]
theorem all_take {α : Type} {f : α → Bool} {xs : List α} {i : Nat} (h : i < xs.length) : (xs.take (i + 1)).all f = ((xs.take i).all f && f xs[i]) := by
  rw [List.take_succ_eq_append_getElem h, List.all_append]; simp
theorem showActs_ok (v : Value) (xs : List Ac) (H : Heap) (hr : Rows encA 10 H v xs) : call K f_ref20_ShowActs [v] H = some (showV xs, H) := by
  refine of_wpf (open_pure rfl fc_ref20_ShowActs rfl (Nat.le_of_ble_eq_true rfl) ?_)
  have hr := hr.roAll
  generalize H.roAll = G0 at *
  obtain ⟨p, c, rfl⟩ := hr.slice
  by_cases hn : xs.length ≤ 256
  rotate_left
  · have hn2 : (256 : Int) < (xs.length : Int) := by omega
    simp [hn2, showV_bad (xs := xs) (fun h => hn h.1)]
  have hn2 : ¬ (256 : Int) < (xs.length : Int) := by omega
  simp [hn2]
  refine wp_nxt (wp_for (fun d e G => ∃ i : Nat, d = xs.length - i ∧ i ≤ xs.length ∧ Ext G0 G ∧ e 0 = .slice p xs.length c ∧ e 5 = .int .i64 (i : Int) ∧ e 4 = .string (S (showL (xs.take i))) ∧ (xs.take i).all mayB = true) xs.length ⟨0, by simp, by simp, Ext.refl G0, by simp, by simp, by simp; rfl, by simp⟩ ?_)
  rintro d e G ⟨i, rfl, hi, hE, e0, e5, e4, hall⟩
  by_cases hlt : i < xs.length
  · have w1 := wrap_succ (i := i) (by omega)
    obtain ⟨b, o, rfl, hb, hrow⟩ := rows_act (hr.ext hE) hlt
    have hat := all_take (f := mayB) hlt
    have hlen := showL_len (xs.take i) fun a ha => MayP.of (List.all_eq_true.1 hall a ha)
    have htf : showL (xs.take (i + 1)) = showL (xs.take i) ++ oneL xs[i] := take_flat oneL hlt
    have hbad : mayB xs[i] = false → ¬ (xs.length ≤ 256 ∧ xs.all mayB = true) := fun h1 h2 => by
      have := List.all_eq_true.1 h2.2 xs[i] (List.getElem_mem _)
      rw [h1] at this; cases this
    rw [List.length_take, Nat.min_eq_left hi] at hlen
    generalize xs[i] = a at *
    obtain ⟨X, x1, E1, v1, n1⟩ := new_act G a
    simp only [zA_enc] at x1
    have hrowX := v1.isA.row
    have hact := fun G => actMay_ok a G
    have hilt : (i : Int) < (xs.length : Int) := by omega
    cases hmay : mayB a
    · have hm2 : mayR a = false := by rw [← may_eq]; exact hmay
      simp [c_ref20_ShowActs_l22, e0, e5, e4, hilt, hlt, hrow, x1, hrowX, hact, hm2, encA_len, showV_bad (hbad hmay)]
    · have hm2 : mayR a = true := by rw [← may_eq]; exact hmay
      have hm := MayP.of hmay
      have w2 : IntKind.i64.wrap (a.torn + 1) = a.torn + 1 := by have := hm.torn; exact wrap_i64 (by omega) (by omega)
      simp [c_ref20_ShowActs_l22, e0, e5, e4, hilt, hlt, hrow, x1, hrowX, hact, hm2, encA_len, v1.isA.c0, v1.isA.c6, v1.isA.c9, v1.isA.c8, w2]
      have hnb : ∀ j, j < 4 → (X.add (rowBlk 1 [.int .i64 a.kind, .int .i64 a.cut, .int .i64 a.at_, .int .i64 (a.torn + 1)])).cell X.next j = some (.int .i64 (((numsA a).getD j 0 : Nat) : Int)) := fun j hj => by
        rw [numsA_cast hm, cell_add_new]
        match j, hj with
        | 0, _ => rfl
        | 1, _ => rfl
        | 2, _ => rfl
        | 3, _ => rfl
      have v2 : VarA (X.add (rowBlk 1 [.int .i64 a.kind, .int .i64 a.cut, .int .i64 a.at_, .int .i64 (a.torn + 1)])) G.next a := v1.other (blk_add_old (by omega))
      have E2 : Ext G (X.add (rowBlk 1 [.int .i64 a.kind, .int .i64 a.cut, .int .i64 a.at_, .int .i64 (a.torn + 1)])) := E1.add _
      refine wp_nxt (wp_unblock (wp_nxt ((sa_nums (a := a) (s0 := showL (xs.take i)) (b := X.next) hm (by simp) hnb (by simp) (by simpa using e4) (by omega)).mono ?_)))
      generalize X.add (rowBlk 1 [.int .i64 a.kind, .int .i64 a.cut, .int .i64 a.at_, .int .i64 (a.torn + 1)]) = Y at *
      rintro x e1 G1 ⟨rfl, rfl, f4, f0, f5, f6⟩
      simp at f0 f5 f6
      have I := v2.isA
      simp [f6, I.c1, I.c2, I.c3, I.c4, I.c5, I.c7]
      have hnt : ∀ j, j < 6 → (G1.add (rowBlk 1 [.string a.name, .string a.parent, .string a.to, .string a.path, .string a.text, .string a.keep])).cell G1.next j = some (.string ((textsA a).getD j ⟨#[]⟩)) := fun j hj => by
        rw [cell_add_new]
        match j, hj with
        | 0, _ => rfl
        | 1, _ => rfl
        | 2, _ => rfl
        | 3, _ => rfl
        | 4, _ => rfl
        | 5, _ => rfl
      have E3 : Ext G (G1.add (rowBlk 1 [.string a.name, .string a.parent, .string a.to, .string a.path, .string a.text, .string a.keep])) := E2.add _
      have hnl : ((numsA a).flatMap numL).length ≤ 4 * 5 := flat_bound numL 5 (numsA a) fun n hn => numL_len (hm.nums hn)
      refine (sa_texts (a := a) (s0 := showL (xs.take i) ++ (numsA a).flatMap numL) (b := G1.next) hm (by simp) hnt (by simp) (by simpa using f4) (by rw [List.length_append]; omega)).mono ?_
      generalize G1.add (rowBlk 1 [.string a.name, .string a.parent, .string a.to, .string a.path, .string a.text, .string a.keep]) = Z at *
      rintro x e2 G2 ⟨rfl, rfl, k4, k0, k5, k6⟩
      simp [f0, f5, f6] at k0 k5 k6
      simp [k0, k5, e0, e5]
      refine ⟨xs.length - (i + 1), by omega, i + 1, rfl, by omega, hE.trans E3, w1, ?_, ?_⟩
      · rw [k4, htf, List.append_assoc]; rfl
      · rw [← List.all_eq_true, hat, hall, hmay]; rfl
  · obtain rfl : i = xs.length := by omega
    rw [List.take_length] at e4 hall
    simp [c_ref20_ShowActs_l22, e0, e5, e4, showV_good hn hall]
end Go.AM
