import Derived.Test.YtbgidagbogpfkaaR7L
/- Contracts: Prepare. -/
namespace Go.AM
open Go.Proofs
set_option linter.unusedVariables false
set_option linter.unusedSimpArgs false
set_option maxRecDepth 100000
attribute [-simp] ByteArray.size_eq_zero_iff
def unown (f : Fil) : Fil := { f with own := false }
def unownTo (fs : List Fil) (i : Nat) : List Fil := (fs.take i).map unown ++ fs.drop i
theorem unownTo_len (fs : List Fil) (i : Nat) : (unownTo fs i).length = fs.length := by simp [unownTo]; omega
theorem unownTo_at {fs : List Fil} {i : Nat} (h : i < fs.length) : (unownTo fs i)[i]'(by rw [unownTo_len]; exact h) = fs[i] := by
  simp only [unownTo]
  rw [List.getElem_append_right (by simp; omega)]
  simp
  congr 1
  omega
theorem unownTo_succ {fs : List Fil} {i : Nat} (h : i < fs.length) : (unownTo fs i).set i (unown fs[i]) = unownTo fs (i + 1) := by
  have hl : ((fs.take i).map unown).length = i := by simp; omega
  simp only [unownTo]
  rw [List.set_append_right i (unown fs[i]) (by omega), hl, Nat.sub_self, List.take_succ_eq_append_getElem h, List.map_append, List.append_assoc]
  congr 1
  rw [List.drop_eq_getElem_cons h]
  rfl
def prepNs (name parent : ByteArray) : List ByteArray := if parent = ⟨#[]⟩ then [name] else [name, parent]
def prepareS (xs : List Inf) (name parent : ByteArray) (kind : Int) : List Inf × Int :=
  if beginE xs (prepNs name parent) ≠ 0 then ([], beginE xs (prepNs name parent)) else
  if kind ≠ 0 ∧ kind ≠ 1 then ([], 1905) else
  if hasN (xs.map Inf.name) name = true then ([], 1902) else
  if parent = ⟨#[]⟩ then (if xs.length = 6 then ([], 1910) else (insAt xs (posN (xs.map Inf.name) name) ⟨name, kind, parent, ⟨#[]⟩, []⟩, 0)) else
  if hasN (xs.map Inf.name) parent = false then ([], 1904) else
  match xs[posN (xs.map Inf.name) parent]? with
  | none => ([], 0)
  | some y => if y.kind ≠ 2 then ([], 1904) else if xs.length = 6 then ([], 1910) else (insAt xs (posN (xs.map Inf.name) name) ⟨name, kind, parent, ⟨#[]⟩, y.files.map unown⟩, 0)
theorem strs21 (s t : ByteArray) (H : Heap) : Strs (H.add (rowBlk 1 [.string s, .string t])) (.slice (some ⟨H.next, 0, none⟩) 1 5) [s] :=
  ⟨by simp, _, _, rfl, .inr ⟨H.next, 0, rfl, by simp, by simp, fun i hi j hj => by
    have hj0 : j = 0 := by omega
    have hi0 : i = 0 := by simpa using hi
    subst hj0 hi0; simp⟩⟩
theorem OwF.ins2 {n0 : Nat} {G0 G X : Heap} {v : Value} {rs : List (Inf × Value)} (h : OwF n0 G0 v rs) (hE : Ext G0 G) (hn0 : n0 ≤ G.next) (i : Nat) (x : Inf × Value) (hx : Ow encF 3 G0.next G x.2 x.1.files) (hXn : X.next = G.next) (hX : ∀ k, blkV v ≠ some k → X.blk k = G.blk k) (hi : i ≤ rs.length) (hl : rs.length ≤ 1000) (hn : n0 ≤ G0.next) :
    OwF n0 (X.add (rowBlk 5 ((rs.take i ++ x :: rs.drop i).flatMap encP))) (.slice (some ⟨G.next, 0, none⟩) (rs.length + 1) (2 * (rs.length + 1))) (rs.take i ++ x :: rs.drop i) :=
  (h.ext hE).ins hn0 i x (hx.low hn) (fun b h1 h2 => by have := (h.out.below b h1).2; have := (hx.below b h2).1; omega) (fun p hp b h1 h2 => by have := ((h.fils p hp).below b h1).2; have := (hx.below b h2).1; omega) hXn hX hi hl
theorem prepare_ok0 (v : Value) (rs : List (Inf × Value)) (name : ByteArray) (kind : Int) (H : Heap) (h : Fo H v rs) (hz : FoZ rs) (hw : FoW rs) (hs : name.size ≤ 140737488355328) :
    wpf (call K f_forest_Prepare [v, .string name, .string ⟨#[]⟩, .int .i64 kind] H) (Ret H (prepareS (infs rs) name ⟨#[]⟩ kind)) := by
  have E0 := (Ext.refl H).add (rowBlk 1 [.string name, .string ⟨#[]⟩])
  have hns : prepNs name ⟨#[]⟩ = [name] := by simp [prepNs]
  obtain ⟨r, G, hc, hE, u, rfl, hu1, hu2⟩ := begin_ok v _ rs [name] _ (h.ext E0) hz hw (strs21 name ⟨#[]⟩ H) (by simp [hs]) (by simp)
  have hE0 := E0.trans hE
  refine open_plain rfl fc_forest_Prepare rfl (Nat.le_of_ble_eq_true rfl) ?_
  have hsl : slvV (H.add (rowBlk 1 [.string name, .string ⟨#[]⟩])) 1 (.slice (some ⟨H.next, 0, none⟩) 2 5) none (some (.int .i64 1)) none = some (.slice (some ⟨H.next, 0, none⟩) 1 5) := by simp [slvV, bound]
  by_cases hn : beginE (infs rs) [name] = 0
  case neg =>
    have hsp : prepareS (infs rs) name ⟨#[]⟩ kind = ([], beginE (infs rs) [name]) := by simp [prepareS, hns, hn]
    rw [hsp]
    rw [hu1 hn] at hc
    simp [hc, hn, hsl]
    exact Ret.err hE0 hn
  obtain ⟨rs', hin, ho⟩ := hu2 hn
  obtain ⟨hmay, _⟩ := beginE_zero hn
  obtain ⟨_, hsort, _, h6⟩ := mayB_inv hmay
  have hll : rs'.length = (infs rs).length := by rw [← infs_length rs', hin]
  have hnames : rs'.map keyP = (infs rs).map Inf.name := by rw [← infs_names, hin]
  have hat : ∀ s, call K f_forest_At [u, .string s] G = some (.tuple #[.int .i64 (posN ((infs rs).map Inf.name) s : Int), .bool (hasN ((infs rs).map Inf.name) s)], G) := fun s => by
    have := atInfo_ok u rs' s G ho.fo.rows (by rw [hnames]; exact hsort) (by omega) ho.fo.one
    rw [hnames] at this; exact this
  have hat1 := hat name
  have hat2 := hat ⟨#[]⟩
  have hple := posN_le ((infs rs).map Inf.name) name
  rw [List.length_map] at hple
  rw [hn] at hc
  obtain ⟨pu, cu, hur⟩ := ho.fo.rows.slice
  have hlu : lenO u = some (.int .i64 (rs'.length : Int)) := by rw [hur]; rfl
  by_cases hk : kind ≠ 0 ∧ kind ≠ 1
  case pos =>
    have hsp : prepareS (infs rs) name ⟨#[]⟩ kind = ([], 1905) := by simp only [prepareS, hns, hn]; rw [if_neg (by simp), if_pos hk]
    rw [hsp]
    obtain ⟨k1, k2⟩ := hk
    simp [hc, hsl, hat1, hat2, k1, k2]
    exact Ret.err hE0 (by decide)
  have hk' : kind = 0 ∨ kind = 1 := by omega
  cases hh : hasN ((infs rs).map Inf.name) name with
  | true =>
    have hsp : prepareS (infs rs) name ⟨#[]⟩ kind = ([], 1902) := by simp only [prepareS, hns, hn]; rw [if_neg (by simp), if_neg hk, if_pos hh]
    rw [hsp]
    rw [hh] at hat1
    rcases hk' with rfl | rfl
    · simp [hc, hsl, hat1, hat2]
      exact Ret.err hE0 (by decide)
    · simp [hc, hsl, hat1, hat2]
      exact Ret.err hE0 (by decide)
  | false =>
    rw [hh] at hat1
    by_cases h66 : (infs rs).length = 6
    · have hsp : prepareS (infs rs) name ⟨#[]⟩ kind = ([], 1910) := by
        simp only [prepareS, hns, hn]; rw [if_neg (by simp), if_neg hk, if_neg (by rw [hh]; decide), if_pos trivial, if_pos h66]
      rw [hsp]
      have hr6 : rs'.length = 6 := by omega
      rw [hr6] at hlu
      rcases hk' with rfl | rfl
      · simp [hc, hsl, hat1, hat2, hlu]
        exact Ret.err hE0 (by decide)
      · simp [hc, hsl, hat1, hat2, hlu]
        exact Ret.err hE0 (by decide)
    · have hsp : prepareS (infs rs) name ⟨#[]⟩ kind = (insAt (infs rs) (posN ((infs rs).map Inf.name) name) ⟨name, kind, ⟨#[]⟩, ⟨#[]⟩, []⟩, 0) := by
        simp only [prepareS, hns, hn]; rw [if_neg (by simp), if_neg hk, if_neg (by rw [hh]; decide), if_pos trivial, if_neg h66]
      rw [hsp]
      have hr6 : ¬ ((rs'.length : Int) = 6) := by omega
      generalize posN ((infs rs).map Inf.name) name = at_ at *
      have hin2 : infs (rs'.take at_ ++ (⟨name, kind, ⟨#[]⟩, ⟨#[]⟩, []⟩, .slice none 0 0) :: rs'.drop at_) = insAt (infs rs) at_ ⟨name, kind, ⟨#[]⟩, ⟨#[]⟩, []⟩ := by rw [infs_ins, hin]
      have E1 : ∀ X Y Z, Ext G (((G.add X).set G.next Y).add Z) := fun X Y Z => (((Ext.refl G).add X).set (Nat.le_refl _) Y).add Z
      have hins := fun X Y => insP_ok (ho.out.ext (E1 X Y (rowBlk 5 (encP (⟨name, kind, ⟨#[]⟩, ⟨#[]⟩, []⟩, .slice none 0 0))))) at_ (by omega) (⟨name, kind, ⟨#[]⟩, ⟨#[]⟩, []⟩, .slice none 0 0) (G.next + 1) 3 (row_of 5 0 rfl fun j hj => by
        rw [Nat.zero_add, show G.next + 1 = ((G.add X).set G.next Y).next by simp, cell_add_new]; rfl) (by rw [show G.next + 1 = ((G.add X).set G.next Y).next by simp]; simp [rwB]) (fun e => by have := (ho.out.below _ e).2; omega) rfl (by omega)
      obtain ⟨X0, hX0⟩ : ∃ X0, X0 = rowBlk 5 [(.string ⟨#[]⟩ : Value), .int .i64 0, .string ⟨#[]⟩, .string ⟨#[]⟩, .slice none 0 0] := ⟨_, rfl⟩
      obtain ⟨B1, hB1⟩ : ∃ B1, B1 = ((((X0.put 0 (.string name)).put 1 (.int .i64 kind)).put 2 (.string ⟨#[]⟩)).put 3 (.string ⟨#[]⟩)).put 4 (.slice none 0 0) := ⟨_, rfl⟩
      obtain ⟨X, hXn, hXb, hi2⟩ := hins X0 (some B1)
      have hnx : (((G.add X0).set G.next (some B1)).add (rowBlk 5 (encP (⟨name, kind, ⟨#[]⟩, ⟨#[]⟩, []⟩, .slice none 0 0)))).next = G.next + 2 := by simp
      have hfin := ho.ins2 (E1 X0 (some B1) (rowBlk 5 (encP (⟨name, kind, ⟨#[]⟩, ⟨#[]⟩, []⟩, .slice none 0 0)))) (by rw [hnx]; have := hE.next; omega) at_ (⟨name, kind, ⟨#[]⟩, ⟨#[]⟩, []⟩, .slice none 0 0) Ow.nil hXn hXb (by omega) (by omega) hE.next
      have hEf : Ext H (X.add (rowBlk 5 ((rs'.take at_ ++ (⟨name, kind, ⟨#[]⟩, ⟨#[]⟩, []⟩, .slice none 0 0) :: rs'.drop at_).flatMap encP))) := by
        have E4 := hE.trans (E1 X0 (some B1) (rowBlk 5 (encP (⟨name, kind, ⟨#[]⟩, ⟨#[]⟩, []⟩, .slice none 0 0))))
        exact (E0.trans ⟨by rw [hXn]; exact E4.next, fun k hk => by rw [hXb k (fun e => by have := (ho.out.below _ e).1; omega)]; exact E4.blk k hk⟩).add _
      generalize rs'.take at_ ++ (⟨name, kind, ⟨#[]⟩, ⟨#[]⟩, []⟩, .slice none 0 0) :: rs'.drop at_ = rsf at *
      rw [hnx] at hi2 hfin
      rw [hX0] at hB1
      rcases hk' with rfl | rfl
      all_goals
        rw [hB1, hX0] at hi2
        simp [hc, hsl, hat1, hat2, hlu, hr6]
        refine wp_nxt (wp_for (fun d e G' => G' = (G.add X0).set G.next (some B1) ∧ e 91 = .int .i64 0 ∧ e 90 = .int .i64 0 ∧ e 11 = u ∧ e 13 = .int .i64 (at_ : Int) ∧ e 17 = .pointer (some ⟨G.next, 0, none⟩)) 0 ⟨by rw [hB1, hX0], by simp, by simp, by simp, by simp, by simp⟩ ?_)
        rintro d e G' ⟨rfl, e91, e90, e11, e13, e17⟩
        simp [c_forest_Prepare_l25, e91, e90, e11, e13, e17]
        rw [hB1, hX0]
        simp [hi2]
        exact ⟨hEf, _, rfl, fun h => absurd rfl h, fun _ => ⟨rsf, hin2, hfin.low (by simp)⟩⟩
end Go.AM
