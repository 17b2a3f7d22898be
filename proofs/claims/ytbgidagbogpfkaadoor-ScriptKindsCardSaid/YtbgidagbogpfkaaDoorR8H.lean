import Derived.Test.YtbgidagbogpfkaaDoorR8G
/- The reference's ShowActs. -/
namespace Go.AM
open Go.Proofs
set_option linter.unusedVariables false
set_option linter.unusedSimpArgs false
set_option maxRecDepth 100000
attribute [-simp] ByteArray.size_eq_zero_iff Heap.store Heap.row
theorem sadd_S {P : Program} {t : TypeId} (a b : List UInt8) (h : a.length + b.length ≤ 281474976710656) : binV P .add t (.string (S a)) (.string (S b)) = some (.string (S (a ++ b))) := by
  rw [binV_sadd _ _ _ _ (by rw [S_size, S_size]; omega), S_app]
theorem take_flat {α : Type} (f : α → List UInt8) {xs : List α} {i : Nat} (h : i < xs.length) : (xs.take (i + 1)).flatMap f = (xs.take i).flatMap f ++ f xs[i] := by
  rw [List.take_succ_eq_append_getElem h, List.flatMap_append]; simp
theorem take_flat_len {α : Type} (f : α → List UInt8) (m : Nat) (xs : List α) (i : Nat) (hi : i ≤ xs.length) (h : ∀ x ∈ xs, (f x).length ≤ m) : ((xs.take i).flatMap f).length ≤ i * m := by
  have := flat_bound f m (xs.take i) fun x hx => h x (List.mem_of_mem_take hx)
  rw [List.length_take, Nat.min_eq_left hi] at this; exact this
theorem sa_nums {e : Env} {G : Heap} {a : Ac} {s0 : List UInt8} {b : Nat} (hm : MayP a) (h7 : e 7 = .slice (some ⟨b, 0, none⟩) 4 9) (hb : ∀ j, j < 4 → G.cell b j = some (.int .i64 (((numsA a).getD j 0 : Nat) : Int))) (h8 : e 8 = .int .i64 0) (h4 : e 4 = .string (S s0)) (hs : s0.length ≤ 140737488355328) :
    wp (unblock 2 (run K (.loop c_ref20_ShowActs_l14) e G)) fun x e' G' => x = .norm ∧ G' = G ∧ e' 4 = .string (S (s0 ++ (numsA a).flatMap numL)) ∧ e' 0 = e 0 ∧ e' 5 = e 5 ∧ e' 6 = e 6 := by
  refine wp_for (fun d e' G' => ∃ i : Nat, d = 4 - i ∧ i ≤ 4 ∧ G' = G ∧ e' 7 = .slice (some ⟨b, 0, none⟩) 4 9 ∧ e' 8 = .int .i64 (i : Int) ∧ e' 4 = .string (S (s0 ++ ((numsA a).take i).flatMap numL)) ∧ e' 0 = e 0 ∧ e' 5 = e 5 ∧ e' 6 = e 6) 4 ⟨0, by simp, by simp, rfl, h7, by simpa using h8, by simpa using h4, rfl, rfl, rfl⟩ ?_
  rintro d e' G' ⟨i, rfl, hi, rfl, e7, e8, e4, e0, e5, e6⟩
  have hl : (numsA a).length = 4 := rfl
  by_cases hlt : i < 4
  · have w1 := wrap_succ (i := i) (by omega)
    have hi4 : ((i : Nat) : Int) < 4 := by omega
    have hc := hb i hlt
    have hx : (numsA a).getD i 0 = (numsA a)[i] := by rw [List.getD_eq_getElem?_getD, List.getElem?_eq_getElem (by rw [hl]; exact hlt)]; rfl
    have hn : (numsA a)[i] ≤ 1000 := hm.nums (List.getElem_mem _)
    have hlen := take_flat_len numL 5 (numsA a) i (by omega) fun n hn => numL_len (hm.nums hn)
    have htf := take_flat numL (xs := numsA a) (i := i) (by omega)
    rw [hx] at hc
    generalize (numsA a)[i] = n at *
    generalize hX : s0 ++ ((numsA a).take i).flatMap numL = X at *
    have hXl : X.length ≤ 140737488355400 := by subst hX; rw [List.length_append]; omega
    have hd := fun G => decimal_ok n hn G
    have hdl := (decDigits_len hn).1
    have a1 : binV K.P .add 9 (.string (S X)) (.string (dg (n : Int))) = some (.string (S (X ++ Lib.decDigits n))) := by rw [dg_S]; exact sadd_S _ _ (by omega)
    have a2 : binV K.P .add 9 (.string (S (X ++ Lib.decDigits n))) (.string ⟨#[32]⟩) = some (.string (S (X ++ Lib.decDigits n ++ [32]))) := sadd_S _ [32] (by rw [List.length_append]; simp; omega)
    have hfin : X ++ Lib.decDigits n ++ [32] = s0 ++ ((numsA a).take (i + 1)).flatMap numL := by rw [htf, ← List.append_assoc, hX]; simp [numL]
    rw [hfin] at a2
    simp [c_ref20_ShowActs_l14, e7, e8, e4, hi4, hlt, hc, hd, a1, a2]
    exact ⟨4 - (i + 1), by omega, i + 1, rfl, by omega, w1, rfl, e0, e5, e6⟩
  · obtain rfl : i = 4 := by omega
    simp [c_ref20_ShowActs_l14, e7, e8, e4, e0, e5, e6]
    exact congrArg (fun z => S (s0 ++ List.flatMap numL z)) (List.take_of_length_le (by rw [hl]; omega))
theorem sa_texts {e : Env} {G : Heap} {a : Ac} {s0 : List UInt8} {b : Nat} (hm : MayP a) (h9 : e 9 = .slice (some ⟨b, 0, none⟩) 6 13) (hb : ∀ j, j < 6 → G.cell b j = some (.string ((textsA a).getD j ⟨#[]⟩))) (h10 : e 10 = .int .i64 0) (h4 : e 4 = .string (S s0)) (hs : s0.length ≤ 140737488355328) :
    wp (unblock 4 (run K (.loop c_ref20_ShowActs_l20) e G)) fun x e' G' => x = .norm ∧ G' = G ∧ e' 4 = .string (S (s0 ++ (textsA a).flatMap textL)) ∧ e' 0 = e 0 ∧ e' 5 = e 5 ∧ e' 6 = e 6 := by
  refine wp_for (fun d e' G' => ∃ i : Nat, d = 6 - i ∧ i ≤ 6 ∧ G' = G ∧ e' 9 = .slice (some ⟨b, 0, none⟩) 6 13 ∧ e' 10 = .int .i64 (i : Int) ∧ e' 4 = .string (S (s0 ++ ((textsA a).take i).flatMap textL)) ∧ e' 0 = e 0 ∧ e' 5 = e 5 ∧ e' 6 = e 6) 6 ⟨0, by simp, by simp, rfl, h9, by simpa using h10, by simpa using h4, rfl, rfl, rfl⟩ ?_
  rintro d e' G' ⟨i, rfl, hi, rfl, e9, e10, e4, e0, e5, e6⟩
  have hl : (textsA a).length = 6 := rfl
  have hkeep : ∀ i ∈ c_ref20_ShowActs_r18, KeepI K i.ins := by
    intro i hi
    simp only [c_ref20_ShowActs_r18, List.mem_cons, List.not_mem_nil, or_false] at hi
    rcases hi with rfl | rfl | rfl | rfl | rfl | rfl | rfl | rfl | rfl | rfl | rfl | rfl | rfl | rfl | rfl
    all_goals first
      | exact keep_pure rfl rfl
      | exact keep_call rfl rfl
  have hreg : ∀ e G, run K (.regd c_ref20_ShowActs_r18 [(9, 10)]) e G = ok2 (runIr K.P (call K) c_ref20_ShowActs_r18 e G) := fun e G => run_regd_keep K _ _ _ _ hkeep rfl
  simp only [c_ref20_ShowActs_r18] at hreg
  by_cases hlt : i < 6
  · have w1 := wrap_succ (i := i) (by omega)
    have hi4 : ((i : Nat) : Int) < 6 := by omega
    have hc := hb i hlt
    have hx : (textsA a).getD i ⟨#[]⟩ = (textsA a)[i] := by rw [List.getD_eq_getElem?_getD, List.getElem?_eq_getElem (by rw [hl]; exact hlt)]; rfl
    have hn : (textsA a)[i].size ≤ 512 := hm.texts (List.getElem_mem _)
    have hlen := take_flat_len textL 517 (textsA a) i (by omega) fun w hw => textL_len (hm.texts hw)
    have htf := take_flat textL (xs := textsA a) (i := i) (by omega)
    rw [hx] at hc
    generalize (textsA a)[i] = w at *
    generalize hX : s0 ++ ((textsA a).take i).flatMap textL = X at *
    have hXl : X.length ≤ 140737488361000 := by subst hX; rw [List.length_append]; omega
    have hd := fun G => decimal_ok w.size (by omega) G
    have hdl := (decDigits_len (n := w.size) (by omega)).1
    have hwl : (L w).length = w.size := L_length w
    have a1 : binV K.P .add 9 (.string (S X)) (.string (dg (w.size : Int))) = some (.string (S (X ++ Lib.decDigits w.size))) := by rw [dg_S]; exact sadd_S _ _ (by omega)
    have a2 : binV K.P .add 9 (.string (S (X ++ Lib.decDigits w.size))) (.string ⟨#[58]⟩) = some (.string (S (X ++ Lib.decDigits w.size ++ [58]))) := sadd_S _ [58] (by rw [List.length_append]; simp; omega)
    have a3 : binV K.P .add 9 (.string (S (X ++ Lib.decDigits w.size ++ [58]))) (.string w) = some (.string (S (X ++ Lib.decDigits w.size ++ [58] ++ L w))) := by
      have := sadd_S (P := K.P) (t := 9) (X ++ Lib.decDigits w.size ++ [58]) (L w) (by simp only [List.length_append, hwl, List.length_singleton]; omega)
      rw [S_L] at this; exact this
    have hfin : X ++ Lib.decDigits w.size ++ [58] ++ L w = s0 ++ ((textsA a).take (i + 1)).flatMap textL := by rw [htf, ← List.append_assoc, hX]; simp [textL]
    rw [hfin] at a3
    generalize X ++ Lib.decDigits w.size ++ [58] = Y2 at a2 a3
    generalize X ++ Lib.decDigits w.size = Y1 at a1 a2
    simp [c_ref20_ShowActs_l20, hreg, e9, e10, e4, hi4, hlt, hc, hd, a1, a2, a3]
    exact ⟨6 - (i + 1), by omega, i + 1, rfl, by omega, w1, rfl, e0, e5, e6⟩
  · obtain rfl : i = 6 := by omega
    simp [c_ref20_ShowActs_l20, e9, e10, e4, e0, e5, e6]
    exact congrArg (fun z => S (s0 ++ List.flatMap textL z)) (List.take_of_length_le (by rw [hl]; omega))
end Go.AM
