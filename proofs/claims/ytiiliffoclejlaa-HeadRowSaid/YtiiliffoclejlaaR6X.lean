/- Contracts: new disks. -/
import Derived.Test.YtiiliffoclejlaaR6W
namespace Go.AM
open Go.Proofs
set_option linter.unusedVariables false
set_option linter.unusedSimpArgs false
set_option maxRecDepth 100000
attribute [-simp] ByteArray.size_eq_zero_iff
theorem shr32 (t : TypeId) (a : Int) (h : a < 4294967296) (h0 : 0 ≤ a) : binV K.P .shr t (.int .u64 a) (.int .u64 32) = some (.int .u64 0) := by
  rw [show (Value.int IntKind.u64 32) = .int .u64 ((32 : Nat) : Int) by rfl, binV_shr]
  congr 2
  rw [show (2 : Int) ^ min 32 IntKind.u64.bits = 4294967296 by decide, Int.fdiv_eq_ediv_of_nonneg _ (by omega)]; omega
theorem mul64_ok (H : Heap) : call K f_math_bits_Mul64 [.int .u64 1, .int .u64 394] H = some (.tuple #[.int .u64 0, .int .u64 394], H) := by
  refine of_wpf (open_pure rfl fc_math_bits_Mul64 rfl (Nat.le_of_ble_eq_true rfl) ?_)
  have a1 : bits .and .u64 1 4294967295 = 1 := by decide
  have a2 : bits .and .u64 394 4294967295 = 394 := by decide
  have a3 : bits .and .u64 0 4294967295 = 0 := by decide
  have s1 := fun t => shr32 t 1 (by omega) (by omega)
  have s2 := fun t => shr32 t 394 (by omega) (by omega)
  have s3 := fun t => shr32 t 0 (by omega) (by omega)
  have m1 : IntKind.u64.wrap 394 = 394 := by decide
  have m2 : IntKind.u64.wrap 0 = 0 := by decide
  simp [a1, a2, a3, s1, s2, s3, m1, m2]
theorem mul_ok (H : Heap) : call K f_math_bits_Mul [.int .u64 1, .int .u64 394] H = some (.tuple #[.int .u64 0, .int .u64 394], H) := by
  refine of_wpf (open_pure rfl fc_math_bits_Mul rfl (Nat.le_of_ble_eq_true rfl) ?_)
  simp [mul64_ok]
theorem one_rep (q : Nat) (v : Value) (h : v.oneCell' = true) : (List.replicate q v).all Value.oneCell' = true := by
  rw [List.all_eq_true]; intro a ha; rw [(List.mem_replicate.1 ha).2]; exact h
theorem store_rep {H : Heap} {b o q : Nat} {B : Blk} {v : Value} (hB : H.blk b = some B) (hro : B.ro = false) (hv : v.oneCell' = true) (hat : ∀ j, j < q → (B.at_ (o + j)).isSome = true) (hq : q ≠ 0) : H.store b o (List.replicate q v) = some (H.set b (some (B.puts o (List.replicate q v)))) := by
  obtain ⟨k, rfl⟩ : ∃ k, q = k + 1 := ⟨q - 1, by omega⟩
  have hr : (H.row b o (List.replicate (k + 1) v).length).isSome = true := by
    rw [row_of (vs := (List.range (k + 1)).map fun j => (B.at_ (o + j)).getD undef) _ o (by simp) fun j hj => ?_]
    · rfl
    · simp only [List.length_replicate] at hj
      rw [show H.cell b (o + j) = B.at_ (o + j) by simp only [Heap.cell, hB]]
      obtain ⟨x, hx⟩ := Option.isSome_iff_exists.1 (hat j hj)
      simp [hj, hx]
  unfold Heap.store
  rw [List.replicate_succ]
  simp only
  rw [← List.replicate_succ, hB]
  simp only
  rw [if_pos ⟨hro, hr, one_rep _ _ hv⟩]
theorem repeatS_ok (m : Nat) (hm : m = 394) (b : Nat) (s : ByteArray) (H : Heap) (hb : b < H.next) (hc : H.cell b 0 = some (.string s)) : wpf (call K f_slices_Repeat_string_string [.slice (some ⟨b, 0, none⟩) 1 3, .int .i64 394] H) fun r H' => Ext H H' ∧ Strs H' r (List.replicate m s) := by
  refine open_plain rfl fc_slices_Repeat_string_string rfl (Nat.le_of_ble_eq_true rfl) ?_
  have m1 : IntKind.u64.wrap 394 = 394 := by decide
  have m2 : IntKind.u64.wrap 1 = 1 := by decide
  have m3 : IntKind.i64.wrap 394 = 394 := by decide
  have nb : ¬ b = H.next := by omega
  have e1 : Nat.min 1 394 = 1 := rfl
  have hcell : (H.add (fillB 1 394 [.string ⟨#[]⟩])).cell b 0 = some (.string s) := by simp [nb, hc]
  simp [m1, m2, m3, mul_ok, natOf_int, step_copy, strLen, e1, nb, hc]
  refine wp_nxt (wp_for (fun d e G => ∃ (n : Nat) (B : Blk), d = m - n ∧ 1 ≤ n ∧ n ≤ m ∧ G.next = H.next + 1 ∧ (∀ k, k < H.next → G.blk k = H.blk k) ∧ G.blk H.next = some B ∧ B.ro = false ∧ B.esz = 1 ∧ (∀ j, j < m → B.at_ j = some (.string (if j < n then s else ⟨#[]⟩))) ∧ e 7 = .slice (some ⟨H.next, 0, none⟩) m (2 * m + 1) ∧ e 8 = .int .i64 (n : Int)) (m - 1) ⟨1, (fillB 1 394 [.string ⟨#[]⟩]).put 0 (.string s), by omega, by omega, by omega, by simp, fun k hk => by
      have hk' : ¬ k = H.next := by omega
      simp [hk'], by simp, rfl, rfl, fun j hj => ?_, by simp [hm], by simp⟩ ?_)
  · have : j < 394 := by omega
    by_cases h0 : j = 0 <;> simp [h0, this, Nat.mod_one]
  · rintro d e G ⟨n, B, rfl, h1, hn, hnx, hlow, hB, hro, hes, hat, h7, h8⟩
    have hcb : ∀ o, G.cell H.next o = B.at_ o := fun o => by simp only [Heap.cell, hB]
    by_cases hlt : n < m
    · obtain ⟨q, hq⟩ : ∃ q, q = Nat.min n (m - n) := ⟨_, rfl⟩
      have hqq : q = min n (m - n) := hq
      have q1 : 1 ≤ q := by omega
      have q2 : q ≤ n := by omega
      have q3 : n + q ≤ m := by omega
      have hes2 : G.eszIs H.next 1 = true := by simp [Heap.eszIs, hB, hes]
      have s1 : slvV G 1 (.slice (some ⟨H.next, 0, none⟩) m (2 * m + 1)) (some (.int .i64 (n : Int))) none none = some (.slice (some ⟨H.next, n, none⟩) (m - n) (2 * (m - n) + 1)) := by
        simp only [slvV, bound, natOf_cast]
        rw [show (2 * m + 1) / 2 = m by omega, if_pos ⟨hn, Nat.le_refl _, Nat.le_refl _, fun h => by simp at h⟩, if_pos (by rw [hes2]; simp)]
        simp
        try omega
      have s2 : slvV G 1 (.slice (some ⟨H.next, 0, none⟩) m (2 * m + 1)) none (some (.int .i64 (n : Int))) none = some (.slice (some ⟨H.next, 0, none⟩) n (2 * m + 1)) := by
        simp only [slvV, bound, natOf_cast]
        rw [show (2 * m + 1) / 2 = m by omega, if_pos ⟨Nat.zero_le _, hn, Nat.le_refl _, fun h => by simp at h⟩, if_pos (by simp)]
        simp
        try omega
      have hr : G.row H.next 0 q = some (List.replicate q (.string s)) := row_of q 0 (by simp) fun j hj => by
        rw [Nat.zero_add, hcb, hat j (by omega), if_pos (by omega)]; simp [hj]
      have hst := store_rep (H := G) (o := n) (q := q) (v := .string s) hB hro rfl (fun j hj => by rw [hat _ (by omega)]; rfl) (by omega)
      have w1 : IntKind.i64.wrap ((n : Int) + (q : Int)) = ((n + q : Nat) : Int) := by rw [wrap_i64 (by omega) (by omega)]; omega
      have hcp : ∀ e : Env, e 41 = .slice (some ⟨H.next, n, none⟩) (m - n) (2 * (m - n) + 1) → e 44 = .slice (some ⟨H.next, 0, none⟩) n (2 * m + 1) → step K.P (call K) (.copy 1 (.t 41) (.t 44)) e G = some (.int .i64 (q : Int), G.set H.next (some (B.puts n (List.replicate q (.string s))))) := fun e h41 h44 => by
        rw [step_copy]
        simp only [ev_t, h41, h44, strLen]
        rw [← hq, elems_at, Nat.mul_one, hr]
        simp only
        rw [hst]
      simp [c_slices_Repeat_string_string_l10, h7, h8, hlt, s1, s2, hcp, w1]
      refine ⟨m - (n + q), by omega, n + q, rfl, by omega, q3, hnx, fun k hk => by rw [if_neg (by omega)]; exact hlow k hk, by rw [(puts_esz _ _ _).2]; exact hro, by rw [(puts_esz _ _ _).1]; exact hes, fun j hj => ?_, by omega⟩
      by_cases hj1 : j < n
      · rw [puts_out (B := B) _ _ _ _ (.inl hj1), hat j hj, if_pos hj1, if_pos (by omega)]
      · by_cases hj2 : j < n + q
        · have := puts_in (B := B) (List.replicate q (.string s)) n B (j - n) (by simp; omega)
          rw [show n + (j - n) = j by omega] at this
          rw [this, if_pos hj2, List.getElem?_replicate, if_pos (by omega)]
        · rw [puts_out (B := B) _ _ _ _ (.inr (by simp; omega)), hat j hj, if_neg hj1, if_neg hj2]
    · obtain rfl : n = m := by omega
      simp [c_slices_Repeat_string_string_l10, h7, h8]
      refine ⟨⟨by omega, hlow⟩, ?_⟩
      refine ⟨by simp; omega, some ⟨H.next, 0, none⟩, 2 * n + 1, by simp, .inr ⟨H.next, 0, rfl, by omega, by simp; omega, fun i hi j hj => ?_⟩⟩
      simp at hi
      obtain rfl : j = 0 := by omega
      simp
      rw [hcb, hat i (by omega), if_pos (by omega)]
def nSec : Nat := 394
theorem nSec_eq : nSec = 394 := rfl
def newD : Dk := (List.replicate nSec (zer 64), [])
theorem new_ok (H : Heap) : wpf (call K f_disk_New [] H) fun r H' => Ext H H' ∧ DkR H' r newD := by
  refine open_plain rfl fc_disk_New rfl (Nat.le_of_ble_eq_true rfl) ?_
  have h2 : ∀ H, call K f_strings_Repeat [.string ⟨#[0]⟩, .int .i64 64] H = some (.string (zer 64), H) := fun H => by
    rw [repeat_ok _ _ _ ⟨by omega, by omega, by decide⟩]
    rw [show (64 : Int).toNat = 64 by rfl, repeat_zero]
  obtain ⟨G0, hG0⟩ : ∃ G0, G0 = (H.add (rowBlk 2 [.slice none 0 0, .slice none 0 0])).add (rowBlk 1 [.string (zer 64)]) := ⟨_, rfl⟩
  have E0 : Ext H G0 := by subst hG0; exact ((Ext.refl H).add _).add _
  have n0 : G0.next = H.next + 2 := by subst hG0; simp
  obtain ⟨v1, G1, c1, E1, r1⟩ := repeatS_ok nSec rfl (H.next + 1) (zer 64) G0 (by omega) (by subst hG0; simp)
  have b1 : G1.blk H.next = some (rowBlk 2 [.slice none 0 0, .slice none 0 0]) := by rw [E1.blk _ (by omega)]; subst hG0; simp <;> omega
  have q2 : G1.cell H.next = (rowBlk 2 [.slice none 0 0, .slice none 0 0]).at_ := by funext o; simp only [Heap.cell, b1]
  obtain ⟨hl, p, k, hv, hp⟩ := id r1
  have hv' : v1 = .slice p nSec k := by simpa using hv
  subst hv'
  simp [h2, ← hG0, c1, b1, q2]
  refine ⟨(E0.trans E1).set (Nat.le_refl _) _, _, _, rfl, ?_, Rows.nil⟩
  refine ⟨by rw [newD]; exact hl, p, k, by simp [newD], hp.imp (fun h => by simp [nSec] at h) ?_⟩
  rintro ⟨b, o, rfl, hb, hk, hc⟩
  have hbn : b ≠ H.next := fun hbn => by
    subst hbn
    have := hc 0 (by rw [List.length_replicate]; decide) 0 (by omega)
    rw [q2] at this
    simp at this
    match o, this with
    | 0, h => simp at h
    | 1, h => simp at h
    | o + 2, h => simp at h
  exact ⟨b, o, rfl, by simpa using hb, hk, fun i hi j hj => by rw [cell_set, if_neg hbn]; exact hc i hi j hj⟩
theorem rnew_ok (H : Heap) : wpf (call K f_ref1_NewDisk [] H) fun r H' => Ext H H' ∧ DkR H' r newD := by
  refine open_plain rfl fc_ref1_NewDisk rfl (Nat.le_of_ble_eq_true rfl) ?_
  have hz := fun H => zeros_ok 64 H (by omega)
  simp
  refine wp_nxt (wp_for (fun d e G => ∃ (i : Nat) (v : Value) (B0 B1 : Blk), d = 394 - i ∧ i ≤ 394 ∧ Ext H G ∧ G.blk H.next = some B0 ∧ B0.ro = false ∧ B0.at_ 0 = some (.slice none 0 0) ∧ B0.at_ 1 = some (.slice none 0 0) ∧ G.blk (H.next + 1) = some B1 ∧ B1.ro = false ∧ B1.at_ 0 = some v ∧ B1.at_ 1 = some (.slice none 0 0) ∧ Own encS 1 (H.next + 2) G v (List.replicate i (zer 64)) ∧ H.next + 2 ≤ G.next ∧ e 0 = .pointer (some ⟨H.next, 0, none⟩) ∧ e 1 = .pointer (some ⟨H.next + 1, 0, none⟩) ∧ e 2 = .int .i64 (i : Int)) 394 ⟨0, .slice none 0 0, rowBlk 2 [.slice none 0 0, .slice none 0 0], rowBlk 2 [.slice none 0 0, .slice none 0 0], by omega, by omega, ((Ext.refl H).add _).add _, by simp, rfl, rfl, rfl, by simp, rfl, rfl, rfl, Own.nil, by simp, by simp, by simp, by simp⟩ ?_)
  rintro d e G ⟨i, v, B0, B1, rfl, hi, hE, hB0, hr0, a0, a1, hB1, hr1, d0, d1, ho, hn, h0, h1, h2⟩
  have hc0 : ∀ o, G.cell H.next o = B0.at_ o := fun o => by simp only [Heap.cell, hB0]
  have hc1 : ∀ o, G.cell (H.next + 1) o = B1.at_ o := fun o => by simp only [Heap.cell, hB1]
  by_cases hlt : i < 394
  · have w1 : (i : Int) < 394 := by omega
    have hA : ∀ X, appV (G.add X) 1 16 1 v [.string (zer 64)] = some (.slice (some ⟨G.next + 1, 0, none⟩) (i + 1) (2 * (i + 1)), (killB v (G.add X)).add (rowBlk 1 ((List.replicate (i + 1) (zer 64)).flatMap encS))) := fun X => by
      rw [(ho.ext ((Ext.refl G).add X)).app encS_len _ (by omega) rfl (by simp; omega) (by simp; omega), List.replicate_succ', List.flatMap_append]
      simp
    obtain ⟨p, c, hv0, _⟩ := ho.slc
    have hv : v = .slice p i c := by simpa using hv0
    have nv0 : NotIn v H.next := ho.notIn (by omega)
    have nv1 : NotIn v (H.next + 1) := ho.notIn (by omega)
    have k1 : ∀ X, (killB v (G.add X)).blk (H.next + 1) = some B1 := fun X => by rw [blk_killB nv1, blk_add, if_neg (by omega)]; exact hB1
    have k0 : ∀ X, (killB v (G.add X)).blk H.next = some B0 := fun X => by rw [blk_killB nv0, blk_add, if_neg (by omega)]; exact hB0
    have kc : ∀ X o, (killB v (G.add X)).cell (H.next + 1) o = B1.at_ o := fun X o => by simp only [Heap.cell, k1]
    have z3 : ¬ H.next + 1 = G.next := by omega
    have z4 : ¬ H.next + 1 = G.next + 1 := by omega
    have z5 : ¬ H.next = G.next := by omega
    subst hv
    simp at hz
    simp [c_ref1_NewDisk_l6, h0, h1, h2, w1, hc1, d0, hz, run_regd_tr, finD_some, Chk, wanted, hA, k1, kc, hr1, z3, z4, z5]
    have z6 : ¬ H.next = G.next + 1 := by omega
    refine ⟨394 - (i + 1), by omega, i + 1, rfl, by omega, ?_, _, B0, by rw [if_neg z6]; exact k0 _, hr0, a0, a1, rfl, d1, ?_, by omega, wrap_succ (by omega)⟩
    · exact ((ho.ext_kill (by omega) (hE.add _)).add _).set (by omega) _
    · have hz := Own.new' (enc := encS) (sz := 1) (n0 := H.next + 2) (b := G.next + 1) (H := killB (.slice p i c) (G.add (rowBlk 1 [.string (zer 64)]))) (xs := List.replicate (i + 1) (zer 64)) (by simp) (by omega) (by simp; omega) rfl
      simp only [List.length_replicate] at hz
      exact hz.set (by omega) _
  · obtain rfl : i = 394 := by omega
    obtain ⟨p, c, hv0, _⟩ := ho.slc
    obtain ⟨m, hm⟩ : ∃ m, m = nSec := ⟨_, rfl⟩
    rw [← nSec_eq, ← hm] at ho
    have hv : v = .slice p m c := by rw [hm, nSec_eq]; simpa using hv0
    subst hv
    simp [c_ref1_NewDisk_l6, h0, h1, h2, hc1, hc0, d0, d1, hB0, hr0, a0, a1]
    refine ⟨hE.set (Nat.le_refl _) _, _, _, rfl, ?_, Rows.nil⟩
    rw [newD, ← hm]
    exact (ho.set (by omega) _).rows encS_len
end Go.AM
