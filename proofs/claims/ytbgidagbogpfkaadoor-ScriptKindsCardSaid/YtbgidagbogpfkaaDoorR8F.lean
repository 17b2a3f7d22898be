import Derived.Test.YtbgidagbogpfkaaDoorR8E
/- The reference's Decimal. -/
namespace Go.AM
open Go.Proofs
set_option linter.unusedVariables false
set_option linter.unusedSimpArgs false
set_option maxRecDepth 100000
attribute [-simp] ByteArray.size_eq_zero_iff Heap.store Heap.row
def encB (x : UInt8) : List Value := [.int .u8 (x.toNat : Int)]
theorem encB_len (x : UInt8) : (encB x).length = 1 := rfl
theorem encB_one (x : UInt8) : (encB x).all Value.oneCell' = true := rfl
theorem nums_bytes : ∀ ds : List UInt8, numsOfRow (ds.flatMap encB) = some (ds.map fun x => (x.toNat : Int))
  | [] => rfl
  | d :: ds => by
    rw [List.flatMap_cons]
    show consN _ (numsOfRow (ds.flatMap encB)) = _
    rw [nums_bytes ds]; rfl
theorem str_bytes (ds : List UInt8) : strOfNums (ds.map fun x => (x.toNat : Int)) = ⟨ds.toArray⟩ := by
  apply L_inj
  rw [L_strOfNums, List.map_map]
  show _ = ds
  conv => rhs; rw [← List.map_id ds]
  refine List.map_congr_left fun x _ => ?_
  simp
theorem rows_add {α : Type} {enc : α → List Value} {sz : Nat} (he : ∀ x, (enc x).length = sz) {H : Heap} {xs : List α} {cs : List Value} (hcs : cs = xs.flatMap enc) {n c : Nat} (hn : n = xs.length) (hl : n ≤ 140737488355328) (hc : n ≤ c / 2) : Rows enc sz (H.add (rowBlk sz cs)) (.slice (some ⟨H.next, 0, none⟩) n c) xs := by
  subst hn hcs
  refine ⟨by omega, _, _, rfl, .inr ⟨H.next, 0, rfl, by simp, hc, fun i hi j hj => ?_⟩⟩
  rw [Nat.zero_add, cell_add_new]
  show (xs.flatMap enc)[i * sz + j]? = _
  rw [flat_get he xs i hi j hj]
/-- A digit laid ahead. -/
theorem dec_step {H : Heap} {v : Value} {ds : List UInt8} (h : Rows encB 1 H v ds) (d : UInt8) (hl : ds.length ≤ 2000) :
    ∃ v' H', appE 1 1 (.slice (some ⟨H.next, 0, none⟩) 1 3) v (H.add (rowBlk 1 [.int .u8 (d.toNat : Int)])) = some (v', H') ∧ Rows encB 1 H' v' (d :: ds) := by
  have hx : Rows encB 1 (H.add (rowBlk 1 [.int .u8 (d.toNat : Int)])) v ds := h.ext ((Ext.refl H).add _)
  rw [hx.appE encB_len]
  by_cases h0 : ds.length = 0
  · obtain rfl : ds = [] := List.eq_nil_of_length_eq_zero h0
    exact ⟨_, _, rfl, rows_add encB_len (xs := [d]) rfl rfl (by simp) (by simp)⟩
  · have hrow : (H.add (rowBlk 1 [.int .u8 (d.toNat : Int)])).row H.next 0 (1 * 1) = some [.int .u8 (d.toNat : Int)] := by
      refine row_of _ 0 rfl fun j hj => ?_
      rw [Nat.zero_add, cell_add_new]; rfl
    rw [appV_odd (xs := [.int .u8 (d.toNat : Int)]) h0 (by omega) (by omega) (by omega) (by omega) (one_flat encB_one ds) hrow]
    refine ⟨_, _, rfl, rows_add encB_len (xs := d :: ds) rfl (by simp; omega) (by omega) (by omega)⟩
theorem dec_step' {H : Heap} {v : Value} {ds : List UInt8} (h : Rows encB 1 H v ds) (m : Nat) (hl : ds.length ≤ 2000) :
    ∃ v' H', appE 1 1 (.slice (some ⟨H.next, 0, none⟩) 1 3) v (H.add (rowBlk 1 [.int .u8 ((48 : Int) + (m % 10 : Nat))])) = some (v', H') ∧ Rows encB 1 H' v' (UInt8.ofNat (48 + m % 10) :: ds) := by
  have : (((UInt8.ofNat (48 + m % 10)).toNat : Nat) : Int) = (48 : Int) + (m % 10 : Nat) := by
    rw [UInt8.toNat_ofNat']; omega
  have h2 := dec_step h (UInt8.ofNat (48 + m % 10)) hl
  rw [this] at h2
  exact h2
theorem rows_b2s {H : Heap} {v : Value} {ds : List UInt8} (h : Rows encB 1 H v ds) : b2sV v H = some (.string ⟨ds.toArray⟩) := by
  obtain ⟨l, p, c, rfl, hp⟩ := h
  rcases hp with ⟨rfl, rfl, rfl⟩ | ⟨b, o, rfl, h2, h3, h4⟩
  · rfl
  · rw [b2sV_at]
    have hrow : H.row b o ds.length = some (ds.flatMap encB) := by
      refine row_of _ o (by rw [flat_len encB_len]; omega) fun j hj => ?_
      have h5 := h4 j hj 0 (by omega)
      have h6 := flat_get encB_len ds j hj 0 (by omega)
      rw [Nat.mul_one, Nat.add_zero] at h5 h6
      rw [h5, h6]
    rw [hrow, bytesO_some, nums_bytes, strO_some, str_bytes]
theorem dg_nat (n : Nat) : dg (n : Int) = ⟨(Lib.decDigits n).toArray⟩ := by
  unfold dg Lib.itoa
  rw [if_neg (by omega)]; rfl
theorem decimal_ok (n : Nat) (hn : n ≤ 1000) (H : Heap) : call K f_ref0_Decimal [.int .i64 (n : Int)] H = some (.string (dg n), H) := by
  refine of_wpf (open_pure rfl fc_ref0_Decimal rfl (Nat.le_of_ble_eq_true rfl) ?_)
  have w0 : ∀ m : Nat, m ≤ 1000 → IntKind.u64.wrap (m : Int) = (m : Int) := fun m hm => by unfold IntKind.wrap; simp [IntKind.bits, IntKind.signed]; omega
  have hneg : ¬ ((n : Int) < 0) := by omega
  simp [w0 n hn, hneg]
  refine wp_nxt (wp_for (fun d e G => ∃ (m : Nat) (ds : List UInt8), d = 2 * m + (if ds = [] then 1 else 0) ∧ m + ds.length ≤ n + 1 ∧ m ≤ 1000 ∧ e 0 = .int .i64 (n : Int) ∧ e 3 = .int .u64 (m : Int) ∧ Rows encB 1 G (e 4) ds ∧ ((ds = [] ∧ m = n) ∨ (ds ≠ [] ∧ Lib.decDigits n = (if m = 0 then [] else Lib.decDigits m) ++ ds))) (2 * n + 1) ⟨n, [], by simp, by simp, hn, by simp, by simp, by simpa using Rows.nil, .inl ⟨rfl, rfl⟩⟩ ?_)
  rintro d e G ⟨m, ds, rfl, hm, hm9, e0, e3, hr, hc⟩
  have hrem : binV K.P .rem 71 (.int .u64 (m : Int)) (.int .u64 10) = some (.int .u64 ((m % 10 : Nat) : Int)) := by
    rw [binV_rem _ _ _ _ _ (by decide)]; simp [Int.tmod_eq_emod_of_nonneg]
  have hquo : binV K.P .quo 71 (.int .u64 (m : Int)) (.int .u64 10) = some (.int .u64 ((m / 10 : Nat) : Int)) := by
    rw [binV_quo _ _ _ _ _ (by decide), Int.tdiv_eq_ediv_of_nonneg (by omega), show (m : Int) / 10 = ((m / 10 : Nat) : Int) by omega, w0 _ (by omega)]
  have w48 : IntKind.u64.wrap ((48 : Int) + (m % 10 : Nat)) = (48 : Int) + (m % 10 : Nat) := by
    have := w0 (48 + m % 10) (by omega)
    simpa using this
  have w8 : ((48 : Int) + (m % 10 : Nat)) % 256 = (48 : Int) + (m % 10 : Nat) := by omega
  obtain ⟨p, c, hv⟩ := hr.slice
  have hr' := hr
  rw [hv] at hr'
  have round : (m > 0 ∨ ds = []) → ∃ v' H', appE 1 1 (.slice (some ⟨G.next, 0, none⟩) 1 3) (e 4) (G.add (rowBlk 1 [.int .u8 ((48 : Int) + (m % 10 : Nat))])) = some (v', H') ∧ (∃ d', (d' < 2 * m + if ds = [] then 1 else 0) ∧ ∃ (k : Nat) (ds' : List UInt8), d' = 2 * k + (if ds' = [] then 1 else 0) ∧ k + ds'.length ≤ n + 1 ∧ k ≤ 1000 ∧ ((m / 10 : Nat) : Int) = (k : Int) ∧ Rows encB 1 H' v' ds' ∧ ((ds' = [] ∧ k = n) ∨ (ds' ≠ [] ∧ Lib.decDigits n = (if k = 0 then [] else Lib.decDigits k) ++ ds'))) := by
    intro hgo
    obtain ⟨v', H', h1, h2⟩ := dec_step' hr m (by omega)
    refine ⟨v', H', h1, 2 * (m / 10), ?_, m / 10, UInt8.ofNat (48 + m % 10) :: ds, by simp, ?_, by omega, rfl, h2, .inr ⟨by simp, ?_⟩⟩
    · by_cases hd : ds = []
      · rw [if_pos hd]; omega
      · rw [if_neg hd]
        rcases hgo with h | h
        · omega
        · exact absurd h hd
    · rw [List.length_cons]
      by_cases hd : ds = []
      · subst hd; simp at hm ⊢; omega
      · rcases hgo with h | h
        · omega
        · exact absurd h hd
    · have hdd : ∀ k : Nat, Lib.decDigits k = (if k / 10 = 0 then [] else Lib.decDigits (k / 10)) ++ [UInt8.ofNat (48 + k % 10)] := fun k => by
        rw [Lib.decDigits]
        by_cases hk : k < 10
        · rw [dif_pos hk, if_pos (by omega), Nat.mod_eq_of_lt hk]; rfl
        · rw [dif_neg hk, if_neg (by omega)]
      rcases hc with ⟨rfl, rfl⟩ | ⟨hd, hc⟩
      · exact hdd m
      · rcases hgo with h | h
        · rw [hc, if_neg (by omega), hdd m, List.append_assoc]; rfl
        · exact absurd h hd
  generalize m % 10 = r at *
  generalize m / 10 = q at *
  by_cases hm0 : 0 < m
  · obtain ⟨v', H', h1, h2⟩ := round (.inl hm0)
    have hmi : (0 : Int) < (m : Int) := by omega
    simp [c_ref0_Decimal_l8, e0, e3, hm0, hmi, hrem, hquo, w48, w8, h1]
    simpa using h2
  · have hmi : ¬ (0 : Int) < (m : Int) := by omega
    by_cases hd : ds = []
    · obtain ⟨v', H', h1, h2⟩ := round (.inr hd)
      have hl : ds.length = 0 := by rw [hd]; rfl
      rw [hv, hl] at h1
      rw [hd] at h2
      simp [c_ref0_Decimal_l8, e0, e3, hm0, hmi, hv, hl, hd, hrem, hquo, w48, w8] at h1 ⊢
      simp [h1, e0, e3, hquo]
      simpa using h2
    · have hl : ¬ ds.length = 0 := fun h => hd (List.eq_nil_of_length_eq_zero h)
      have hn0 : ¬ (n : Int) < 0 := by omega
      have hb := rows_b2s hr'
      have hres : (⟨ds.toArray⟩ : ByteArray) = dg (n : Int) := by
        rcases hc with h | ⟨_, h⟩
        · exact absurd h.1 hd
        · rw [if_pos (by omega)] at h
          rw [dg_nat, h]; rfl
      rw [hres] at hb
      simp [c_ref0_Decimal_l8, e0, e3, hm0, hmi, hv, hd, hn0, hb]
end Go.AM
