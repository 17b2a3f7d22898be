import Derived.Test.YtbgidagbogpfkaaDoorR8K0
/- Contracts: words, numbers, what may be of an act. -/
namespace Go.AM
open Go.Proofs
set_option linter.unusedVariables false
set_option linter.unusedSimpArgs false
set_option maxRecDepth 100000
attribute [-simp] ByteArray.size_eq_zero_iff
structure Ac where
  kind : Int
  name : ByteArray
  parent : ByteArray
  to : ByteArray
  path : ByteArray
  text : ByteArray
  cut : Int
  keep : ByteArray
  torn : Int
  at_ : Int
deriving DecidableEq
def encA (a : Ac) : List Value := [.int .i64 a.kind, .string a.name, .string a.parent, .string a.to, .string a.path, .string a.text, .int .i64 a.cut, .string a.keep, .int .i64 a.torn, .int .i64 a.at_]
theorem encA_len (a : Ac) : (encA a).length = 10 := rfl
theorem encA_one (a : Ac) : (encA a).all Value.oneCell' = true := rfl
@[reducible] def acV (a : Ac) : Value := .agg (encA a).toArray
/-- A block that holds an act. -/
def IsA (H : Heap) (b : Nat) (a : Ac) : Prop := ∀ i, i < 10 → H.cell b i = (encA a)[i]?
def ws (a : Ac) : List ByteArray := [a.name, a.parent, a.to, a.path, a.text]
structure IsA10 (H : Heap) (b : Nat) (a : Ac) : Prop where
  c0 : H.cell b 0 = some (.int .i64 a.kind)
  c1 : H.cell b 1 = some (.string a.name)
  c2 : H.cell b 2 = some (.string a.parent)
  c3 : H.cell b 3 = some (.string a.to)
  c4 : H.cell b 4 = some (.string a.path)
  c5 : H.cell b 5 = some (.string a.text)
  c6 : H.cell b 6 = some (.int .i64 a.cut)
  c7 : H.cell b 7 = some (.string a.keep)
  c8 : H.cell b 8 = some (.int .i64 a.torn)
  c9 : H.cell b 9 = some (.int .i64 a.at_)
theorem IsA.ten {H : Heap} {b : Nat} {a : Ac} (h : IsA H b a) : IsA10 H b a := ⟨h 0 (by decide), h 1 (by decide), h 2 (by decide), h 3 (by decide), h 4 (by decide), h 5 (by decide), h 6 (by decide), h 7 (by decide), h 8 (by decide), h 9 (by decide)⟩
def wordsR (b : Nat) : List Value := [ptr b 1, ptr b 2, ptr b 3, ptr b 4, ptr b 5]
theorem words_ok (b : Nat) (H : Heap) : call K f_script_words [.pointer (some ⟨b, 0, none⟩)] H = some (.slice (some ⟨H.next, 0, none⟩) 5 11, H.add (rowBlk 1 (wordsR b))) := by
  refine of_wpf (open_plain rfl fc_script_words rfl (Nat.le_of_ble_eq_true rfl) ?_)
  simp
  rfl
def fromB (x m : Int) : Bool := decide (0 ≤ x) && decide (x ≤ m)
@[simp] theorem from0_ok (x m : Int) (H : Heap) : call K f_script_from0 [.int .i64 x, .int .i64 m] H = some (.bool (fromB x m), H) := by
  refine of_wpf (open_pure rfl fc_script_from0 rfl (Nat.le_of_ble_eq_true rfl) ?_)
  by_cases h : 0 ≤ x <;> simp [h, fromB]
def namesB (k : Int) : ByteArray := if k = 0 ∨ k = 1 then ⟨#[48, 49]⟩ else if k = 2 then ⟨#[48, 50]⟩ else if k = 3 ∨ k = 8 ∨ k = 10 then ⟨#[48]⟩ else if k = 4 then ⟨#[48, 52]⟩ else if k = 5 then ⟨#[48, 51, 52]⟩ else if k = 6 ∨ k = 7 then ⟨#[48, 51]⟩ else ⟨#[]⟩
@[simp] theorem names_ok (k : Int) (H : Heap) : call K f_script_names [.int .i64 k] H = some (.string (namesB k), H) := by
  refine of_wpf (open_pure rfl fc_script_names rfl (Nat.le_of_ble_eq_true rfl) ?_)
  by_cases h0 : k = 0
  · simp [h0, namesB]
  by_cases h1 : k = 1
  · simp [h1, namesB]
  by_cases h2 : k = 2
  · simp [h2, namesB]
  by_cases h3 : k = 3
  · simp [h3, namesB]
  by_cases h4 : k = 8
  · simp [h4, namesB]
  by_cases h5 : k = 10
  · simp [h5, namesB]
  by_cases h6 : k = 4
  · simp [h6, namesB]
  by_cases h7 : k = 5
  · simp [h7, namesB]
  by_cases h8 : k = 6
  · simp [h8, namesB]
  by_cases h9 : k = 7
  · simp [h9, namesB]
  simp [h0, h1, h2, h3, h4, h5, h6, h7, h8, h9, namesB]
def stopsB (a : Ac) : Bool :=
  if a.kind ≠ 12 ∧ a.cut = 0 then decide (a.keep = ⟨#[]⟩) && decide (a.torn = 0) && decide (a.at_ = 0)
  else (decide (a.kind ≠ 12) || decide (a.cut = 0)) && decide (a.keep.size ≤ 512) && decide (-1 ≤ a.torn) && decide (a.torn ≤ 512) && fromB a.at_ 64
theorem stops_ok (b : Nat) (a : Ac) (H : Heap) (h : IsA10 H b a) : call K f_script_stops [.pointer (some ⟨b, 0, none⟩)] H = some (.bool (stopsB a), H) := by
  refine of_wpf (open_pure rfl fc_script_stops rfl (Nat.le_of_ble_eq_true rfl) ?_)
  by_cases h0 : a.kind = 12
  · by_cases h1 : a.cut = 0
    · skip
      have h7 : ((a.keep.size : Nat) : Int) ≤ 512 ↔ a.keep.size ≤ 512 := by omega
      by_cases h4 : a.keep.size ≤ 512
      · by_cases h5 : -1 ≤ a.torn
        · by_cases h6 : a.torn ≤ 512 <;> simp [h.c0, h.c6, h.c7, h.c8, h.c9, stopsB, h7, h0, h1, h4, h5, h6]
        · simp [h.c0, h.c6, h.c7, h.c8, h.c9, stopsB, h7, h0, h1, h4, h5]
      · simp [h.c0, h.c6, h.c7, h.c8, h.c9, stopsB, h7, h0, h1, h4]
    · simp [h.c0, h.c6, h.c7, h.c8, h.c9, stopsB, h0, h1]
  · by_cases h1 : a.cut = 0
    · by_cases h2 : a.keep = ⟨#[]⟩
      · by_cases h3 : a.torn = 0
        · simp [h.c0, h.c6, h.c7, h.c8, h.c9, stopsB, h0, h1, h2, h3]
        · simp [h.c0, h.c6, h.c7, h.c8, h.c9, stopsB, h0, h1, h2, h3]
      · simp [h.c0, h.c6, h.c7, h.c8, h.c9, stopsB, h0, h1, h2]
    · skip
      have h7 : ((a.keep.size : Nat) : Int) ≤ 512 ↔ a.keep.size ≤ 512 := by omega
      by_cases h4 : a.keep.size ≤ 512
      · by_cases h5 : -1 ≤ a.torn
        · by_cases h6 : a.torn ≤ 512 <;> simp [h.c0, h.c6, h.c7, h.c8, h.c9, stopsB, h7, h0, h1, h4, h5, h6]
        · simp [h.c0, h.c6, h.c7, h.c8, h.c9, stopsB, h7, h0, h1, h4, h5]
      · simp [h.c0, h.c6, h.c7, h.c8, h.c9, stopsB, h7, h0, h1, h4]
def digB (k : Int) (i : Nat) : Bool := decide (0 ≤ Lib.indexByte (namesB k).data.toList (48 + i).toUInt8)
def wordB (k : Int) (i : Nat) (w : ByteArray) : Bool := decide (w.size ≤ 8) && (decide (w = ⟨#[]⟩) || digB k i)
def mayB (a : Ac) : Bool := fromB a.kind 12 && fromB a.cut 1000 && stopsB a && ((List.range 5).all fun i => wordB a.kind i ((ws a).getD i ⟨#[]⟩))
theorem dg0 : dg 0 = ⟨#[48]⟩ := by kernel_rfl
theorem dg1 : dg 1 = ⟨#[49]⟩ := by kernel_rfl
theorem dg2 : dg 2 = ⟨#[50]⟩ := by kernel_rfl
theorem dg3 : dg 3 = ⟨#[51]⟩ := by kernel_rfl
theorem dg4 : dg 4 = ⟨#[52]⟩ := by kernel_rfl
theorem digit_ok (k : Int) (i : Nat) (hi : i < 5) (H : Heap) : call K f_strings_Contains [.string (namesB k), .string (dg (i : Int))] H = some (.bool (digB k i), H) := by
  have : dg (i : Int) = ⟨#[(48 + i).toUInt8]⟩ := by
    match i, hi with
    | 0, _ => exact dg0
    | 1, _ => exact dg1
    | 2, _ => exact dg2
    | 3, _ => exact dg3
    | 4, _ => exact dg4
  rw [this, contains_ok]; rfl
theorem isA_new (H : Heap) (a : Ac) : IsA10 (H.add (rowBlk 10 (encA a))) H.next a := by
  constructor <;> (rw [cell_add_new]; rfl)
theorem IsA10.cell {H : Heap} {b : Nat} {a : Ac} (h : IsA10 H b a) {i : Nat} (hi : i < 5) : H.cell b (1 + i) = some (.string ((ws a).getD i ⟨#[]⟩)) := by
  match i, hi with
  | 0, _ => exact h.c1
  | 1, _ => exact h.c2
  | 2, _ => exact h.c3
  | 3, _ => exact h.c4
  | 4, _ => exact h.c5
theorem wordsR_at (b i : Nat) (hi : i < 5) : (wordsR b)[i]? = some (.pointer (some ⟨b, 1 + i, none⟩)) := by
  match i, hi with
  | 0, _ => rfl
  | 1, _ => rfl
  | 2, _ => rfl
  | 3, _ => rfl
  | 4, _ => rfl
theorem words_all {a : Ac} {n : Nat} : ((List.range n).all fun i => wordB a.kind i ((ws a).getD i ⟨#[]⟩)) = true ↔ ∀ i, i < n → wordB a.kind i ((ws a).getD i ⟨#[]⟩) = true := by
  rw [List.all_eq_true]; simp
theorem may_ok (a : Ac) (H : Heap) : call K f_script_May [acV a] H = some (.bool (mayB a), H) := by
  refine of_wpf (open_pure rfl fc_script_May rfl (Nat.le_of_ble_eq_true rfl) ?_)
  have hA : IsA10 (H.roAll.add (rowBlk 10 (encA a))) H.next a := isA_new H.roAll a
  generalize hX : H.roAll.add (rowBlk 10 (encA a)) = X at hA
  have hs := stops_ok _ a X hA
  have hW := words_ok H.next X
  have hn : X.next = H.next + 1 := by subst hX; rfl
  have hbox : step K.P (call K) (.box 10 (.t 0)) (env0 [acV a]) H.roAll = some (ptr H.next 0, X) := by
    subst hX; rfl
  cases h1 : fromB a.kind 12
  · simp [hbox, hA.c0, h1, mayB]
  cases h2 : fromB a.cut 1000
  · simp [hbox, hA.c0, hA.c6, h1, h2, mayB]
  cases h3 : stopsB a
  · simp [hbox, hA.c0, hA.c6, h1, h2, h3, hs, mayB]
  simp [hbox, hA.c0, hA.c6, h1, h2, h3, hs, hW]
  refine wp_nxt (wp_for (fun d e G => ∃ i : Nat, d = 5 - i ∧ i ≤ 5 ∧ G = X.add (rowBlk 1 (wordsR H.next)) ∧ e 3 = .string (namesB a.kind) ∧ e 23 = .slice (some ⟨X.next, 0, none⟩) 5 11 ∧ e 24 = .int .i64 5 ∧ e 25 = .int .i64 (i : Int) ∧ ∀ j, j < i → wordB a.kind j ((ws a).getD j ⟨#[]⟩) = true) 5 ⟨0, by simp, by simp, rfl, by simp, by simp, by simp, by simp, by simp⟩ ?_)
  rintro d e G ⟨i, rfl, hi, rfl, e3, e23, e24, e25, hall⟩
  by_cases hlt : i < 5
  · have w1 := wrap_succ (i := i) (by omega)
    have hc := hA.cell hlt
    have hp : (X.add (rowBlk 1 (wordsR H.next))).cell X.next i = some (.pointer (some ⟨H.next, 1 + i, none⟩)) := by rw [cell_add_new]; exact wordsR_at _ _ hlt
    have hc2 : (X.add (rowBlk 1 (wordsR H.next))).cell H.next (1 + i) = some (.string ((ws a).getD i ⟨#[]⟩)) := by rw [cell_add_old (by omega)]; exact hc
    have hdig := fun G => digit_ok a.kind i hlt G
    have hi5 : ((i : Nat) : Int) < 5 := by omega
    have hlo : -9223372036854775808 ≤ (i : Int) := by omega
    have hhi : (i : Int) ≤ 9223372036854775807 := by omega
    have good : wordB a.kind i ((ws a).getD i ⟨#[]⟩) = true → ∀ j, j < i + 1 → wordB a.kind j ((ws a).getD j ⟨#[]⟩) = true := fun h j hj => by
      by_cases e : j = i
      · rw [e]; exact h
      · exact hall j (by omega)
    have bad : wordB a.kind i ((ws a).getD i ⟨#[]⟩) = false → mayB a = false := fun h => by
      have : ((List.range 5).all fun i => wordB a.kind i ((ws a).getD i ⟨#[]⟩)) = false := by
        rw [Bool.eq_false_iff]; intro h'; rw [words_all.1 h' i hlt] at h; cases h
      unfold mayB; rw [this, Bool.and_false]
    generalize hw : (ws a).getD i ⟨#[]⟩ = s at *
    have h8 : (8 : Int) < (s.size : Int) ↔ ¬ s.size ≤ 8 := by omega
    by_cases c1 : s.size ≤ 8
    · by_cases c2 : s = ⟨#[]⟩
      · have hg : wordB a.kind i s = true := by subst c2; rfl
        subst c2
        simp [c_script_May_l10, e3, e23, e24, e25, hi5, hlt, hp, hc2, h8, c1]
        exact ⟨5 - (i + 1), by omega, i + 1, rfl, by omega, w1, good hg⟩
      · cases c3 : digB a.kind i
        · have hg : wordB a.kind i s = false := by simp [wordB, c1, c2, c3]
          simp [c_script_May_l10, e3, e23, e24, e25, hi5, hlt, hp, hc2, h8, c1, c2, hlo, hhi, hdig, c3, bad hg]
        · have hg : wordB a.kind i s = true := by simp [wordB, c1, c2, c3]
          simp [c_script_May_l10, e3, e23, e24, e25, hi5, hlt, hp, hc2, h8, c1, c2, hlo, hhi, hdig, c3]
          exact ⟨5 - (i + 1), by omega, i + 1, rfl, by omega, w1, good hg⟩
    · have hg : wordB a.kind i s = false := by simp [wordB, c1]
      simp [c_script_May_l10, e3, e23, e24, e25, hi5, hlt, hp, hc2, h8, c1, bad hg]
  · obtain rfl : i = 5 := by omega
    have hm : mayB a = true := by unfold mayB; rw [h1, h2, h3, words_all.2 hall]; rfl
    simp [c_script_May_l10, e3, e23, e24, e25, hm]
end Go.AM
