import Derived.Test.YtbgidagbogpfkaaR7CodeL
import Derived.Test.YtbgidagbogpfkaaR7Faults
/- The law ForestErrors: true. -/
namespace Go.AM
open Go.Proofs
set_option linter.unusedVariables false
set_option linter.unusedSimpArgs false
set_option maxRecDepth 100000
attribute [-simp] ByteArray.size_eq_zero_iff
/-- An append to what is one's own, with room or without. -/
theorem Ow.app1 {α : Type} {enc : α → List Value} {sz n0 by_ : Nat} {H : Heap} {v : Value} {xs : List α} (h : Own enc sz n0 H v xs) (he : ∀ x, (enc x).length = sz) (x : α) (h1 : (enc x).all Value.oneCell' = true) (hb : (xs.length + 1) * by_ ≤ 2 ^ 47) (hl : xs.length + 1 ≤ 2 ^ 47) (hn : n0 ≤ H.next) :
    ∃ X : Heap, appV H sz by_ 1 v (enc x) = some (.slice (some ⟨H.next, 0, none⟩) (xs.length + 1) (2 * (xs.length + 1)), X) ∧ Own enc sz n0 X (.slice (some ⟨H.next, 0, none⟩) (xs.length + 1) (2 * (xs.length + 1))) (xs ++ [x]) ∧ X.next = H.next + 1 ∧ ∀ A, A.next ≤ n0 → Ext A H → Ext A X := by
  refine ⟨_, h.app he (enc x) (by omega) h1 hb hl, ?_, by simp, fun A hA hE => (h.ext_kill hA hE).add _⟩
  have := Own.new' (enc := enc) (sz := sz) (n0 := n0) (b := H.next) (H := killB v H) (xs := xs ++ [x]) (by simp) hn (by simp; omega) (cs := xs.flatMap enc ++ enc x) (by simp)
  simpa using this
def xName (i : Nat) : ByteArray := ⟨#[120, UInt8.ofNat (48 + i)]⟩
def xInf (i : Nat) : Inf × Value := (⟨xName i, 0, ⟨#[]⟩, ⟨#[]⟩, []⟩, .slice none 0 0)
def fullR (n i : Nat) : List (Inf × Value) := givenR n ++ (List.range i).map xInf
theorem fullR_len (n i : Nat) : (fullR n i).length = 2 + i := by simp [fullR, givenR]; omega
theorem fullR_succ (n i : Nat) : fullR n (i + 1) = fullR n i ++ [xInf i] := by simp [fullR, List.range_succ]
theorem fullR_one (n i : Nat) : ∀ p ∈ fullR n i, p.2.oneCell' = true := by
  intro p hp
  rcases List.mem_append.1 hp with h | h
  · simp only [givenR, List.mem_cons, List.not_mem_nil, or_false] at h
    rcases h with rfl | rfl <;> rfl
  · obtain ⟨j, _, rfl⟩ := List.mem_map.1 h; rfl
/-- The forest that is full. -/
theorem full_loop (n0 : Nat) (v0 : Value) (G : Heap) (nn : Nat) (u0 : Value) (hu0 : ∃ b, u0 = .slice (some ⟨b, 0, none⟩) 2 5) (hf : Fo G u0 (givenR nn)) (hn0 : n0 = G.next) (e : Env) (Q : IEx → Env → Heap → Prop) (e0 : e 0 = v0) (e3 : ∃ v3, e 3 = v3) (e4 : e 4 = u0) (e5 : e 5 = .int .i64 0)
    (hQ : ∀ e' G' u, e' 0 = v0 → e' 3 = e 3 → e' 4 = u → Ext G G' → Fo G' u (fullR nn 4) → Q .norm e' G') : wp (unblock 0 (run K (.loop c_law19_ForestErrors_l9) e G)) Q := by
  obtain ⟨b0, rfl⟩ := hu0
  have hr0 := hf.rows
  refine wp_for (fun d e' G' => ∃ (i : Nat) (u : Value), d = 4 - i ∧ i ≤ 4 ∧ Ext G G' ∧ e' 0 = v0 ∧ e' 3 = e 3 ∧ e' 4 = u ∧ e' 5 = .int .i64 (i : Int) ∧ ((i = 0 ∧ u = .slice (some ⟨b0, 0, none⟩) 2 5 ∧ G' = G) ∨ (0 < i ∧ Own encP 5 n0 G' u (fullR nn i)))) 4 ⟨0, _, rfl, by omega, Ext.refl _, e0, rfl, e4, by simpa using e5, .inl ⟨rfl, rfl, rfl⟩⟩ ?_
  rintro d e' G' ⟨i, u, rfl, hi, hE, k0, k3, k4, k5, hu⟩
  by_cases hlt : i < 4
  · have hi4 : ((i : Int) < 4) := by omega
    have w1 : IntKind.i64.wrap (48 + (i : Int)) = 48 + (i : Int) := by rw [wrap_i64] <;> omega
    have w2 : (48 + (i : Int)) % 256 = 48 + (i : Int) := by omega
    have w3 := wrap_succ (i := i) (by omega)
    have hname : (⟨#[120]⟩ : ByteArray) ++ strOfNums [48 + (i : Int)] = xName i := by
      apply L_inj
      rw [L_append, L_strOfNums]
      simp only [xName, L, List.map_cons, List.map_nil]
      rw [show (48 + (i : Int)).toNat = 48 + i by omega]
      rfl
    have hbn : binV K.P .add 9 (.string ⟨#[120]⟩) (.string (strOfNums [48 + (i : Int)])) = some (.string (xName i)) := by
      rw [binV_sadd, hname]
      rw [size_strOfNums]
      show 1 + 1 ≤ _
      omega
    obtain ⟨G2, hG2⟩ : ∃ G2, G2 = (G'.add (rowBlk 1 [.int .u8 (48 + (i : Int))])).add (rowBlk 5 [.string (xName i), .int .i64 0, .string ⟨#[]⟩, .string ⟨#[]⟩, .slice none 0 0]) := ⟨_, rfl⟩
    have E2 : Ext G' G2 := by rw [hG2]; exact ((Ext.refl G').add _).add _
    have happ : ∃ X u', appV G2 5 80 1 u [.string (xName i), .int .i64 0, .string ⟨#[]⟩, .string ⟨#[]⟩, .slice none 0 0] = some (u', X) ∧ Own encP 5 n0 X u' (fullR nn (i + 1)) ∧ Ext G X := by
      have hone : (encP (xInf i)).all Value.oneCell' = true := rfl
      rcases hu with ⟨rfl, rfl, rfl⟩ | ⟨hpos, ho⟩
      · have hrow : G2.row b0 0 (2 * 5) = some ((givenR nn).flatMap encP) := by
          obtain ⟨hl, p, c, e1, hp⟩ := hf.rows.ext E2
          cases e1
          rcases hp with ⟨hh, _⟩ | ⟨b, o, hh, q1, q2, q3⟩
          · cases hh
          · cases hh
            refine row_of _ 0 rfl fun j hj => ?_
            have hq : j / 5 < (givenR nn).length := by show j / 5 < 2; omega
            have hm : j % 5 < 5 := by omega
            have := q3 (j / 5) hq (j % 5) hm
            have e2 : j / 5 * 5 + j % 5 = j := by omega
            rw [Nat.zero_add, e2] at this
            rw [Nat.zero_add, this]
            have := flat_get encP_len (givenR nn) (j / 5) hq _ hm
            rw [e2] at this
            rw [this]
        have ha := appV_odd (H := G2) (esz := 5) (bytes := 80) (k := 1) (b := b0) (o := 0) (n := 2) (c := 5) (xs := (givenR nn).flatMap encP) (ys := encP (xInf 0)) (by omega) (by omega) (by omega) (by omega) (by omega) hone hrow
        refine ⟨_, _, ha, ?_, (hE.trans E2).add _⟩
        have hx : (givenR nn).flatMap encP ++ encP (xInf 0) = (fullR nn 1).flatMap encP := by rw [fullR_succ]; simp [fullR]
        rw [hx]
        have := Own.new' (enc := encP) (sz := 5) (n0 := n0) (b := G2.next) (H := G2) (xs := fullR nn 1) rfl (by rw [hn0]; exact E2.next) (by rw [fullR_len]; omega) rfl
        rw [fullR_len] at this; exact this
      · obtain ⟨X, h1, h2, h3, h4⟩ := Ow.app1 (by_ := 80) (ho.ext E2) encP_len (xInf i) hone (by rw [fullR_len]; omega) (by rw [fullR_len]; omega) (by have := hE.next; have := E2.next; omega)
        exact ⟨X, _, h1, by rw [fullR_succ]; exact h2, h4 G (by omega) (hE.trans E2)⟩
    obtain ⟨X, u', ha, ho', hEX⟩ := happ
    rw [hG2] at ha
    simp [c_law19_ForestErrors_l9, k0, k4, k5, hi4, w1, w2, hbn, ha]
    exact ⟨4 - (i + 1), by omega, i + 1, rfl, by omega, hEX, k3, w3, .inr ⟨by omega, ho'⟩⟩
  · have h4 : i = 4 := by omega
    subst h4
    rcases hu with ⟨h, _⟩ | ⟨_, ho⟩
    · cases h
    · simp [c_law19_ForestErrors_l9, k0, k4, k5]
      refine hQ _ _ u (by simpa using k0) (by simpa using k3) (by simpa using k4) hE ⟨ho.rows encP_len, fun p hp => ?_⟩
      rcases List.mem_append.1 hp with h | h
      · exact (hf.fils p h).ext hE
      · obtain ⟨j, _, rfl⟩ := List.mem_map.1 h
        exact Rows.nil
def xInfs (i : Nat) : List Inf := (List.range i).map fun j => ⟨xName j, 0, ⟨#[]⟩, ⟨#[]⟩, []⟩
theorem full_infs (n i : Nat) : infs (fullR n i) = givenL ++ xInfs i := by
  unfold fullR
  rw [infs, List.map_append, List.map_map]
  rfl
theorem full_z (n : Nat) : FoZ (fullR n 4) ∧ FoW (fullR n 4) := by
  have h : ∀ p ∈ fullR n 4, p.1 ∈ givenL ++ xInfs 4 := fun p hp => by rw [← full_infs n 4]; exact List.mem_map.2 ⟨p, hp, rfl⟩
  have h1 : ∀ x ∈ givenL ++ xInfs 4, (x.name.size ≤ 100 ∧ ∀ f ∈ x.files, f.path.size ≤ 100) ∧ x.files.length ≤ 100 := by decide +kernel
  have h2 : (fullR n 4).length = 6 := fullR_len n 4
  refine ⟨⟨by omega, fun p hp => ?_⟩, ⟨by omega, fun p hp => ?_⟩⟩
  · obtain ⟨⟨a, b⟩, c⟩ := h1 _ (h p hp)
    exact ⟨⟨by omega, fun f hf => by have := b f hf; unfold FilZ; omega⟩, by omega⟩
  · obtain ⟨⟨a, b⟩, c⟩ := h1 _ (h p hp)
    omega
theorem errors_law (which : Int) (H : Heap) : call K f_law19_ForestErrors [.int .i64 which] H = some (.bool true, H) := by
  refine of_wpf (open_pure rfl fc_law19_ForestErrors rfl (Nat.le_of_ble_eq_true rfl) ?_)
  have ha := awake_ok H.roAll
  have hf := given_fo H.roAll
  have hg := given_ok H.roAll
  obtain ⟨hz, hw⟩ := given_z H.roAll.next
  generalize hv0 : (Value.slice (some ⟨H.roAll.next + 2, 0, none⟩) 2 5) = v0 at *
  generalize givenH H.roAll = G0 at *
  have hf1 := given_fo G0
  have hg1 := given_ok G0
  have E1 := givenH_ext G0
  obtain ⟨k, hk, hrem⟩ := umod which 10 (by omega) (by omega)
  simp only [show ((10 : Nat) : Int) = 10 from rfl] at hrem
  simp [ha, hg, hg1]
  refine wp_nxt (full_loop _ (.int .i64 which) _ G0.next _ ⟨_, rfl⟩ hf1 rfl _ _ (by simp) ⟨_, rfl⟩ (by simp) (by simp) ?_)
  intro e' G u k0 k3 k4 hE hF
  obtain ⟨zF, wF⟩ := full_z G0.next
  simp at k3
  have hfG := (hf.ext E1).ext hE
  have g1 : infs (givenR H.roAll.next) = givenL := given_infs _
  have g2 : infs (fullR G0.next 4) = givenL ++ xInfs 4 := full_infs _ _
  obtain ⟨_, c0⟩ := err_of (prepare_ok v0 _ ⟨#[]⟩ ⟨#[110, 111, 110, 101]⟩ 9 G hfG hz hw (by decide) (by decide)) (e := 1901) (by rw [g1]; decide +kernel) (by decide)
  obtain ⟨_, c1⟩ := err_of (prepare_ok v0 _ ⟨#[118]⟩ ⟨#[66]⟩ 9 G hfG hz hw (by decide) (by decide)) (e := 1901) (by rw [g1]; decide +kernel) (by decide)
  obtain ⟨_, c2⟩ := err_of (prepare_ok v0 _ tB ⟨#[110, 111, 110, 101]⟩ 9 G hfG hz hw (by decide) (by decide)) (e := 1905) (by rw [g1]; decide +kernel) (by decide)
  obtain ⟨_, c3⟩ := err_of (prepare_ok v0 _ tB ⟨#[110, 111, 110, 101]⟩ 1 G hfG hz hw (by decide) (by decide)) (e := 1902) (by rw [g1]; decide +kernel) (by decide)
  obtain ⟨_, c4⟩ := err_of (prepare_ok u _ ⟨#[118]⟩ tW 1 G hF zF wF (by decide) (by decide)) (e := 1904) (by rw [g2]; decide +kernel) (by decide)
  obtain ⟨_, c5⟩ := err_of (prepare_ok u _ ⟨#[118]⟩ tB 1 G hF zF wF (by decide) (by decide)) (e := 1910) (by rw [g2]; decide +kernel) (by decide)
  obtain ⟨_, c6⟩ := err_of (commit_ok v0 _ ⟨#[110, 111, 110, 101]⟩ ⟨#[66]⟩ G hfG hz hw (by decide) (by decide)) (e := 1901) (by rw [g1]; decide +kernel) (by decide)
  obtain ⟨_, c7⟩ := err_of (commit_ok v0 _ ⟨#[110, 111, 110, 101]⟩ tB G hfG hz hw (by decide) (by decide)) (e := 1903) (by rw [g1]; decide +kernel) (by decide)
  obtain ⟨_, c8⟩ := err_of (commit_ok v0 _ tB tB G hfG hz hw (by decide) (by decide)) (e := 1905) (by rw [g1]; decide +kernel) (by decide)
  obtain ⟨_, c9⟩ := err_of (commit_ok v0 _ tW tW G hfG hz hw (by decide) (by decide)) (e := 1902) (by rw [g1]; decide +kernel) (by decide)
  match k, hk with
  | 0, _ => simp at hrem; simp [k0, k3, k4, hrem, c0]
  | 1, _ => simp at hrem; simp [k0, k3, k4, hrem, c1]
  | 2, _ => simp at hrem; simp [k0, k3, k4, hrem, c2]
  | 3, _ => simp at hrem; simp [k0, k3, k4, hrem, c3]
  | 4, _ => simp at hrem; simp [k0, k3, k4, hrem, c4]
  | 5, _ => simp at hrem; simp [k0, k3, k4, hrem, c5]
  | 6, _ => simp at hrem; simp [k0, k3, k4, hrem, c6]
  | 7, _ => simp at hrem; simp [k0, k3, k4, hrem, c7]
  | 8, _ => simp at hrem; simp [k0, k3, k4, hrem, c8]
  | 9, _ => simp at hrem; simp [k0, k3, k4, hrem, c9]
end Go.AM
