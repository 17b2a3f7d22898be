import Derived.Test.YtbgidagbogpfkaaR7CodeL
import Derived.Test.YtbgidagbogpfkaaR7Aw
/- The laws ForestFaults, ForestErrors: true. -/
namespace Go.AM
open Go.Proofs
set_option linter.unusedVariables false
set_option linter.unusedSimpArgs false
set_option maxRecDepth 100000
attribute [-simp] ByteArray.size_eq_zero_iff
theorem umod (x : Int) (m : Nat) (h0 : 0 < m) (h1 : m ≤ 1000000) : ∃ k : Nat, k < m ∧ binV K.P .rem tyUint (.int .u64 (IntKind.u64.wrap x)) (.int .u64 (m : Int)) = some (.int .u64 (k : Int)) := by
  have hw : IntKind.u64.wrap x = x % 18446744073709551616 := by simp [IntKind.wrap, IntKind.bits, IntKind.signed]
  refine ⟨((x % 18446744073709551616) % (m : Int)).toNat, ?_, ?_⟩
  · have := Int.emod_lt_of_pos (x % 18446744073709551616) (show (0 : Int) < m by omega)
    have := Int.emod_nonneg (x % 18446744073709551616) (show (m : Int) ≠ 0 by omega)
    omega
  · rw [binV_rem _ _ _ _ _ (by omega), hw, Int.tmod_eq_emod_of_nonneg (by omega)]
    congr 2
    have := Int.emod_nonneg (x % 18446744073709551616) (show (m : Int) ≠ 0 by omega)
    omega
theorem err_of {H : Heap} {q : List Inf × Int} {c : Option (Value × Heap)} {e : Int} (h : wpf c (Ret H q)) (he : q.2 = e) (h0 : e ≠ 0) : ∃ G, c = some (.tuple #[.slice none 0 0, .int .i64 e], G) := by
  obtain ⟨r, G, h1, h2⟩ := h
  have := ret_err h2 (by rw [he]; exact h0)
  rw [he] at this
  exact ⟨G, by rw [h1, this]⟩
theorem faults_law (which : Int) (H : Heap) : call K f_law19_ForestFaults [.int .i64 which] H = some (.bool true, H) := by
  refine of_wpf (open_pure rfl fc_law19_ForestFaults rfl (Nat.le_of_ble_eq_true rfl) ?_)
  obtain ⟨hz, hw⟩ := given_z H.roAll.next
  have hf := given_fo H.roAll
  have hg := given_ok H.roAll
  have ha := awake_ok H.roAll
  obtain ⟨k, hk, hrem⟩ := umod which 11 (by omega) (by omega)
  simp only [show ((11 : Nat) : Int) = 11 from rfl] at hrem
  generalize hv0 : (Value.slice (some ⟨H.roAll.next + 2, 0, none⟩) 2 5) = v0 at *
  generalize givenH H.roAll = G0 at *
  obtain ⟨_, c0⟩ := err_of (remove_ok v0 _ ⟨#[110, 111, 110, 101]⟩ G0 hf hz hw (by decide)) (e := 1903) (by rw [given_infs]; decide +kernel) (by decide)
  obtain ⟨_, c1⟩ := err_of (remove_ok v0 _ tB G0 hf hz hw (by decide)) (e := 1906) (by rw [given_infs]; decide +kernel) (by decide)
  obtain ⟨_, c2⟩ := err_of (label_ok' v0 _ ⟨#[110, 111, 110, 101]⟩ ⟨#[102, 111, 117, 114]⟩ G0 hf hz hw (by decide)) (e := 1903) (by rw [given_infs]; decide +kernel) (by decide)
  obtain ⟨_, c3⟩ := err_of (label_ok' v0 _ tB ⟨#[102, 111, 117, 114]⟩ G0 hf hz hw (by decide)) (e := 1911) (by rw [given_infs]; decide +kernel) (by decide)
  obtain ⟨_, c4⟩ := err_of (write_ok v0 _ ⟨#[110, 111, 110, 101]⟩ ⟨#[]⟩ ⟨#[115, 101, 118, 101, 110, 55, 55]⟩ G0 hf hz hw (by decide) (by decide)) (e := 1903) (by rw [given_infs]; decide +kernel) (by decide)
  obtain ⟨_, c5⟩ := err_of (write_ok v0 _ tB ⟨#[]⟩ ⟨#[115, 101, 118, 101, 110, 55, 55]⟩ G0 hf hz hw (by decide) (by decide)) (e := 1905) (by rw [given_infs]; decide +kernel) (by decide)
  obtain ⟨_, c6⟩ := err_of (write_ok v0 _ tW ⟨#[]⟩ ⟨#[115, 101, 118, 101, 110, 55, 55]⟩ G0 hf hz hw (by decide) (by decide)) (e := 1907) (by rw [given_infs]; decide +kernel) (by decide)
  obtain ⟨_, c7⟩ := err_of (write_ok v0 _ tW ⟨#[99]⟩ ⟨#[115, 101, 118, 101, 110, 55, 55]⟩ G0 hf hz hw (by decide) (by decide)) (e := 1909) (by rw [given_infs]; decide +kernel) (by decide)
  obtain ⟨_, c8⟩ := err_of (delete_ok v0 _ tB ⟨#[]⟩ G0 hf hz hw (by decide) (by decide)) (e := 1905) (by rw [given_infs]; decide +kernel) (by decide)
  obtain ⟨_, c9⟩ := err_of (delete_ok v0 _ tW ⟨#[]⟩ G0 hf hz hw (by decide) (by decide)) (e := 1907) (by rw [given_infs]; decide +kernel) (by decide)
  obtain ⟨_, c10⟩ := err_of (delete_ok v0 _ tW ⟨#[99]⟩ G0 hf hz hw (by decide) (by decide)) (e := 1908) (by rw [given_infs]; decide +kernel) (by decide)
  match k, hk with
  | 0, _ => simp at hrem; simp [ha, hg, hrem, c0]
  | 1, _ => simp at hrem; simp [ha, hg, hrem, c1]
  | 2, _ => simp at hrem; simp [ha, hg, hrem, c2]
  | 3, _ => simp at hrem; simp [ha, hg, hrem, c3]
  | 4, _ => simp at hrem; simp [ha, hg, hrem, c4]
  | 5, _ => simp at hrem; simp [ha, hg, hrem, c5]
  | 6, _ => simp at hrem; simp [ha, hg, hrem, c6]
  | 7, _ => simp at hrem; simp [ha, hg, hrem, c7]
  | 8, _ => simp at hrem; simp [ha, hg, hrem, c8]
  | 9, _ => simp at hrem; simp [ha, hg, hrem, c9]
  | 10, _ => simp at hrem; simp [ha, hg, hrem, c10]
end Go.AM
