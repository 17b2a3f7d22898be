import Derived.Test.YtbgidagbogpfkaaDoorR8CodeL
import Derived.Test.YtbgidagbogpfkaaDoorR8V
/- The statement Scripts. -/
namespace Go.AM
open Go.Proofs
set_option linter.unusedVariables false
set_option linter.unusedSimpArgs false
set_option maxRecDepth 100000
attribute [-simp] ByteArray.size_eq_zero_iff Heap.store Heap.row
theorem copy_lit {H : Heap} {v : Value} {xs : List Ac} (h : Rows encA 10 H v xs) (hl : xs.length ≤ 1099511627774) :
    ∃ u H', appE 10 128 (.slice (some ⟨H.next, 0, none⟩) 0 1) v (H.add (rowBlk 10 [])) = some (u, H') ∧ Rows encA 10 H' u xs ∧ Ext H H' := by
  have h1 : Rows encA 10 (H.add (rowBlk 10 [])) v xs := h.ext ((Ext.refl H).add _)
  rw [h1.appE encA_len]
  cases xs with
  | nil => exact ⟨_, _, rfl, rows_add (H := H) (xs := ([] : List Ac)) encA_len rfl rfl (by omega) (by omega), (Ext.refl H).add _⟩
  | cons x xs =>
    have hone : (((x :: xs).flatMap encA).all Value.oneCell') = true := one_flat encA_one _
    refine ⟨_, _, ?_, rows_add (H := H.add (rowBlk 10 [])) (xs := x :: xs) (n := (x :: xs).length) (c := 2 * (x :: xs).length) encA_len rfl rfl (by omega) (by omega), ((Ext.refl H).add _).add _⟩
    unfold appV
    rw [if_neg (by simp)]
    dsimp only
    rw [if_neg (by simp), if_pos ⟨by omega, by omega, hone⟩]
    simp [Heap.row]
theorem parseS_len (s : ByteArray) : (parseS s).1.length ≤ 256 := by
  by_cases h : (parseS s).2 = 0
  · exact (showS_ok (parseS_ok h)).1
  · rw [parseS_bad h]; simp
theorem scripts_law (v : Value) (xs : List Ac) (s : ByteArray) (H : Heap) (hr : Rows encA 10 H v xs) (hl : xs.length ≤ 1099511627774) (hs : s.size ≤ 140737488355328) : call K f_law24_Scripts [v, .string s] H = some (.bool true, H) := by
  refine of_wpf (open_pure rfl fc_law24_Scripts rfl (Nat.le_of_ble_eq_true rfl) ?_)
  have hr := hr.roAll
  generalize H.roAll = G at *
  obtain ⟨u, G1, c1, c2, E1⟩ := copy_lit hr hl
  obtain ⟨a, G2, p1, p2, E2⟩ := parse_ok' s hs G1
  obtain ⟨b, G3, q1, q2, E3⟩ := parseActs_ok s hs G2
  have h1 := show_ok u xs G1 c2
  have h2 := showActs_ok v xs G1 (hr.ext E1)
  rw [showV_eq] at h1 h2
  have hS1 := sameActs_ok a b (parseS s).1 (parseS s).1 G3 (p2.ext E3) q2 (by have := parseS_len s; omega)
  have hS2 := sameActs_ok u v xs xs G3 (c2.ext (E2.trans E3)) (hr.ext ((E1.trans E2).trans E3)) (by omega)
  have hr3 := hr.ext ((E1.trans E2).trans E3)
  have ha := awake_ok G3
  obtain ⟨p, c, rfl⟩ := hr.slice
  simp [c1, h1, h2, p1, q1, hS1, hS2]
  refine wp_nxt (wp_for (fun d e G' => ∃ i : Nat, d = xs.length - i ∧ i ≤ xs.length ∧ G' = G3 ∧ e 0 = .slice p xs.length c ∧ e 14 = .int .i64 (i : Int)) xs.length ⟨0, by simp, by simp, rfl, by simp, by simp⟩ ?_)
  rintro d e G' ⟨i, rfl, hi, rfl, e0, e14⟩
  by_cases hlt : i < xs.length
  · have hi' : (i : Int) < (xs.length : Int) := by omega
    have w1 := wrap_succ (i := i) (by omega)
    obtain ⟨bk, o, rfl, hb2, hrow⟩ := rows_act hr3 hlt
    have hm1 := fun G => may_ok xs[i] G
    have hm2 := fun G => actMay_ok xs[i] G
    have he := may_eq xs[i]
    rw [he] at hm1
    have hkeep : ∀ j ∈ c_law24_Scripts_r10, KeepI K j.ins := by
      intro j hj
      simp [c_law24_Scripts_r10] at hj
      rcases hj with rfl | rfl | rfl | rfl | rfl | rfl | rfl | rfl | rfl | rfl | rfl <;> first | exact keep_pure rfl rfl | exact keep_call rfl rfl
    have hreg : ∀ e G, run K (.regd c_law24_Scripts_r10 [(7, 8)]) e G = ok2 (runIr K.P (call K) c_law24_Scripts_r10 e G) := fun e G => run_regd_keep K _ _ _ _ hkeep rfl
    simp only [c_law24_Scripts_r10] at hreg
    have hb : ∀ x : Bool, binV K.P .neq 4 (.bool x) (.bool x) = some (.bool false) := by
      intro x; cases x <;> rfl
    simp [c_law24_Scripts_l13, hreg, e0, e14, hi', hlt, hrow, hm1, hm2, encA_len, hb]
    exact ⟨xs.length - (i + 1), by omega, i + 1, rfl, by omega, w1⟩
  · have hi' : ¬ (i : Int) < (xs.length : Int) := by omega
    simp [c_law24_Scripts_l13, e0, e14, hi', ha]
end Go.AM
