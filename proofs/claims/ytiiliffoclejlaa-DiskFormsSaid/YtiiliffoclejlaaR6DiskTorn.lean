/- The law DiskTorn: true. -/
import Derived.Test.YtiiliffoclejlaaR6Zb
namespace Go.AM
open Go.Proofs
set_option linter.unusedVariables false
set_option linter.unusedSimpArgs false
set_option maxRecDepth 100000
attribute [-simp] ByteArray.size_eq_zero_iff
theorem sec_zero : sec 0 = zer 64 := by
  rw [sec, show IntKind.u8.wrap 0 = 0 by decide, str_zero]
theorem and255 (x : Int) : bits .and .i64 x 255 = x % 256 := and_mask x 8 (by decide)
theorem and63 (x : Int) : bits .and .i64 x 63 = x % 64 := and_mask x 6 (by decide)
theorem do_writeI {d : Dk} (hd : dOk d = true) {a : Int} {t : ByteArray} (h0 : 0 ≤ a) (h1 : a < 394) (ht : t.size = 64) (hc : d.2.length < 512) :
    doR d (false, a, t) = (d.1, d.2 ++ [(a, t)]) ∧ doE d (false, a, t) = 0 ∧ dOk (d.1, d.2 ++ [(a, t)]) = true := by
  obtain ⟨k, rfl⟩ := Int.eq_ofNat_of_zero_le h0
  exact do_write hd (by omega) ht hc
theorem crN_two (keep : ByteArray) (at_ : Int) (S : List ByteArray) (w w' : Img) : crN keep 1 at_ S [w, w'] 2 = (if oddK keep 0 = true then S.set w.1.toNat w.2 else S).set w'.1.toNat (tornR ((if oddK keep 0 = true then S.set w.1.toNat w.2 else S)[w'.1.toNat]?.getD ⟨#[]⟩) w'.2 at_) := by
  have h1 : crN keep 1 at_ S [w, w'] 1 = if oddK keep 0 = true then S.set w.1.toNat w.2 else S := by
    have := crN_succ keep 1 at_ S [w, w'] (i := 0) (by simp)
    rw [crStep, if_neg (by simp)] at this
    exact this
  have h2 := crN_succ keep 1 at_ S [w, w'] (i := 1) (by simp)
  rw [h1, crStep, if_pos (by simp)] at h2
  exact h2
theorem torn_law (at_ where_ : Int) (kept : Bool) (H : Heap) : call K f_law2_DiskTorn [.int .i64 at_, .int .i64 where_, .bool kept] H = some (.bool true, H) := by
  refine of_wpf (open_pure rfl fc_law2_DiskTorn rfl (Nat.le_of_ble_eq_true rfl) ?_)
  obtain ⟨k, hk, hrem⟩ := umod at_ 65 (by omega) (by omega)
  have hrem' : ∀ t, binV K.P .rem t (.int .u64 (IntKind.u64.wrap at_)) (.int .u64 65) = some (.int .u64 (k : Int)) := fun t => hrem
  have wk : IntKind.i64.wrap (k : Int) = k := wrap_i64 (by omega) (by omega)
  obtain ⟨w, hw, hw2⟩ : ∃ w : Nat, bits .and .i64 where_ 255 = (w : Int) ∧ w < 256 := ⟨(where_ % 256).toNat, by rw [and255]; omega, by omega⟩
  obtain ⟨_, G1, c1, E1, D1⟩ := new_ok H.roAll
  obtain ⟨f1, f2, f3⟩ := do_write newD_ok (k := w) (t := sec 7) (by omega) (sec_size 7) (by decide)
  obtain ⟨_, G2, c2, E2, _, rfl, o2⟩ := do_ok _ newD false (w : Int) (sec 7) _ D1
  rw [f1] at o2
  rw [f2] at c2
  obtain ⟨ps, kp, qs, kq, A0, rfl, hA0, _⟩ := stage1 D1 newD_len (n := 0) rfl
  obtain ⟨p2, k2, q2, m2, A2, rfl, hA2, n2, X2, F2⟩ := stage1 o2.dk newD_len (n := 1) rfl
  obtain ⟨a20, a21, d2⟩ := F2 A2 (Ext.refl _)
  obtain ⟨g1, g2, g3⟩ := do_write f3 (k := w) (t := sec 9) (by omega) (sec_size 9) (by simp [newD])
  obtain ⟨_, G3, c3, E3, _, rfl, o3⟩ := do_ok _ _ false (w : Int) (sec 9) _ (d2.ext ((Ext.refl A2).add (rowBlk 2 [.slice none 0 0, .slice none 0 0])))
  rw [g1] at o3
  rw [g2] at c3
  obtain ⟨p3, k3, q3, m3, A3, rfl, b3, cb3, hA3, n3, l3, X3, F3⟩ := stage2 E3 o3 newD_len (n := 2) rfl
  obtain ⟨a30, a31, d3⟩ := F3 A3 (Ext.refl _)
  have zz : ¬ G2.next = A2.next := by omega
  have fin : ∀ (keep : ByteArray) (old : Int), (if oddK keep 0 = true then newD.1.set w (sec 7) else newD.1)[w]?.getD ⟨#[]⟩ = sec old → ∃ p k' q m A4 b o G4, call K f_disk_Crash [.agg #[.slice p3 394 k3, .slice q3 2 m3], .string keep, .int .i64 1, .int .i64 (k : Int)] A3 = some (.tuple #[.agg #[.slice p 394 k', .slice q 0 m], .int .i64 0], G4) ∧
      A4 = (G4.add (rowBlk 2 [.slice none 0 0, .slice none 0 0])).set G4.next (some (((rowBlk 2 [.slice none 0 0, .slice none 0 0]).put 0 (.slice p 394 k')).put 1 (.slice q 0 m))) ∧ A4.cell G4.next 0 = some (.slice p 394 k') ∧ A4.cell G4.next 1 = some (.slice q 0 m) ∧ p = some ⟨b, o, none⟩ ∧ A4.cell b (o + w) = some (.string ((sec 9).extract 0 k ++ (sec old).extract k 64)) := fun keep old hold => by
    obtain ⟨i1, i2, i3⟩ := do_crash g3 keep 1 (at_ := (k : Int)) ⟨by omega, by omega⟩
    obtain ⟨_, G4, c4, E4, _, rfl, o4⟩ := crash_ok _ _ keep 1 (k : Int) _ d3
    rw [i1] at o4
    rw [i2] at c4
    have hcr : crN keep 1 (k : Int) (newD.1, newD.2 ++ [((w : Int), sec 7)] ++ [((w : Int), sec 9)]).1 (newD.1, newD.2 ++ [((w : Int), sec 7)] ++ [((w : Int), sec 9)]).2 (newD.1, newD.2 ++ [((w : Int), sec 7)] ++ [((w : Int), sec 9)]).2.length = (if oddK keep 0 = true then newD.1.set w (sec 7) else newD.1).set w (tornR (sec old) (sec 9) k) := by
      have := crN_two keep (k : Int) newD.1 ((w : Int), sec 7) ((w : Int), sec 9)
      simp only [Int.toNat_natCast] at this
      rw [hold] at this
      exact this
    rw [show (((newD.1, newD.2 ++ [((w : Int), sec 7)]).1, (newD.1, newD.2 ++ [((w : Int), sec 7)]).2 ++ [((w : Int), sec 9)]) : Dk) = (newD.1, newD.2 ++ [((w : Int), sec 7)] ++ [((w : Int), sec 9)]) from rfl] at o4
    rw [hcr] at o4
    have hlen : ((if oddK keep 0 = true then newD.1.set w (sec 7) else newD.1).set w (tornR (sec old) (sec 9) k)).length = 394 := by
      rw [List.length_set]; split
      · rw [List.length_set]; exact newD_len
      · exact newD_len
    obtain ⟨p4, k4, q4, m4, A4, rfl, hA4, n4, X4, F4⟩ := stage1 o4.dk hlen (n := 0) rfl
    obtain ⟨a40, a41, d4⟩ := F4 A4 (Ext.refl _)
    obtain ⟨b, o, hp, hb, hc⟩ := d4.sec (i := w) (by simp only; omega)
    refine ⟨p4, k4, q4, m4, A4, b, o, G4, c4, hA4, a40, a41, hp, ?_⟩
    rw [hc]
    simp only [List.getElem_set_self]
    rw [tornR, if_pos ⟨⟨sec_size _, sec_size _⟩, by omega, by omega⟩, Int.toNat_natCast]
  have s9 : (sec 9).size = 64 := sec_size 9
  have k64 : k ≤ 64 := by omega
  have a1 : slsV (sec 9) none (some (.int .i64 (k : Int))) = some (.string ((sec 9).extract 0 k)) := by simp [slsV, bound, s9, k64]
  have a2 : ∀ x, slsV (sec x) (some (.int .i64 (k : Int))) none = some (.string ((sec x).extract k 64)) := fun x => by simp [slsV, bound, sec_size, k64]
  have a3 : ∀ x, binV K.P .add tyStr (.string ((sec 9).extract 0 k)) (.string ((sec x).extract k 64)) = some (.string ((sec 9).extract 0 k ++ (sec x).extract k 64)) := fun x => binV_sadd _ _ _ _ (by rw [size_extract, size_extract, sec_size, sec_size]; omega)
  have hw3 : w < 394 := by omega
  cases kept with
  | true =>
    obtain ⟨p, k', q, m, A4, b, o, G4, c4, hA4, a40, a41, rfl, hc⟩ := fin ⟨#[1]⟩ 7 (by
      rw [if_pos (by decide), List.getElem?_set_self (by rw [newD_len]; omega)]; rfl)
    simp [awake2_ok, hrem', wk, hw, sector_ok, c1, c2, ← hA2, a20, a21, zz, run_regd_tr, finD_some, Chk, wanted, c3, b3, cb3, ← hA3, a30, a31, c4, ← hA4, a40, a41, hw3, hc, a1, a2, a3]
  | false =>
    obtain ⟨p, k', q, m, A4, b, o, G4, c4, hA4, a40, a41, rfl, hc⟩ := fin ⟨#[0]⟩ 0 (by
      rw [if_neg (by decide), newD, sec_zero, List.getElem?_eq_getElem (by rw [List.length_replicate, nSec_eq]; omega)]; simp)
    simp [awake2_ok, hrem', wk, hw, sector_ok, c1, c2, ← hA2, a20, a21, zz, run_regd_tr, finD_some, Chk, wanted, c3, b3, cb3, ← hA3, a30, a31, c4, ← hA4, a40, a41, hw3, hc, a1, a2, a3]
end Go.AM
