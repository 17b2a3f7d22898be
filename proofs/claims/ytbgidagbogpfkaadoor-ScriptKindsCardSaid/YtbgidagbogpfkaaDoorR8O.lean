import Derived.Test.YtbgidagbogpfkaaDoorR8N
/- script.Parse. -/
namespace Go.AM
open Go.Proofs
set_option linter.unusedVariables false
set_option linter.unusedSimpArgs false
set_option maxRecDepth 100000
attribute [-simp] ByteArray.size_eq_zero_iff Heap.store Heap.row
def parseF : Nat → List Ac → List UInt8 → Bool → List Ac × Bool
  | 0, out, _, bad => (out, bad)
  | n + 1, out, r, bad => if r ≠ [] ∧ bad = false ∧ out.length ≤ 256 then parseF n (out ++ [(actF r bad).c]) (actF r bad).r (actF r bad).bad else (out, bad)
def resP (q : List Ac × Bool) (s : ByteArray) : List Ac × Int := if q.2 = false ∧ showS q.1 = (s, 0) then (q.1, 0) else ([], 2400)
theorem S_nil {r : List UInt8} : S r = ⟨#[]⟩ ↔ r = [] := ⟨fun h => by rw [← L_S r, h, L_nil], fun h => congrArg S h⟩
theorem lenOwn {α : Type} {enc : α → List Value} {sz n0 : Nat} {H : Heap} {v : Value} {xs : List α} (h : Own enc sz n0 H v xs) : lenO v = some (.int .i64 (xs.length : Int)) := h.len
theorem encA_flat1 (a : Ac) : ([a].flatMap encA) = encA a := by simp
theorem showV_eq (xs : List Ac) : showV xs = .tuple #[.string (showS xs).1, .int .i64 (showS xs).2] := rfl
theorem own_push {n0 : Nat} {H : Heap} {v : Value} {out : List Ac} (h : Own encA 10 n0 H v out) (hn : n0 ≤ H.next) (a : Ac) (hl : out.length ≤ 1000) :
    ∃ v' H', appE 10 128 v (.slice (some ⟨H.next, 0, none⟩) 1 3) (H.add (rowBlk 10 (encA a))) = some (v', H') ∧ Own encA 10 n0 H' v' (out ++ [a]) ∧ H.next ≤ H'.next ∧ ∀ k, k < n0 → H'.blk k = H.blk k := by
  have h1 : Own encA 10 n0 (H.add (rowBlk 10 (encA a))) v out := h.ext ((Ext.refl H).add _)
  have h2 : Rows encA 10 (H.add (rowBlk 10 (encA a))) (.slice (some ⟨H.next, 0, none⟩) 1 3) [a] := rows_add encA_len (xs := [a]) (encA_flat1 a).symm rfl (by omega) (by omega)
  refine ⟨_, _, h1.appR h2 encA_len encA_one (bytes := 128) (by simp) (by simp; omega) (by simp; omega), Own.new' (by simp) (by simp; omega) (by simp; omega) rfl, by simp; omega, fun k hk => ?_⟩
  rw [blk_add_old (by simp; omega), blk_killB (h1.notIn hk), blk_add_old (by omega)]
structure PInv (G : Heap) (s : ByteArray) (d : Nat) (e : Env) (G' : Heap) (out : List Ac) (r : List UInt8) (bad : Bool) : Prop where
  d : d = 257 - out.length
  ho : out.length ≤ 257
  hE : Ext G G'
  hn : G.next + 1 ≤ G'.next
  ht : TkP G' G.next r bad
  hown : Own encA 10 (G.next + 1) G' (e 5) out
  e4 : e 4 = .pointer (some ⟨G.next, 0, none⟩)
  e0 : e 0 = .string s
  hr : r.length ≤ (L s).length
  hp : parseF 257 [] (L s) false = parseF (257 - out.length) out r bad
def PInvE (G : Heap) (s : ByteArray) (d : Nat) (e : Env) (G' : Heap) : Prop := ∃ out r bad, PInv G s d e G' out r bad
theorem parse_ok (s : ByteArray) (hs : s.size ≤ 140737488355328) (G : Heap) : ∃ v G', call K f_script_Parse [.string s] G = some (.tuple #[v, .int .i64 (resP (parseF 257 [] (L s) false) s).2], G') ∧ Rows encA 10 G' v (resP (parseF 257 [] (L s) false) s).1 ∧ Ext G G' := by
  have key : wpf (call K f_script_Parse [.string s] G) fun u G' => ∃ v, u = .tuple #[v, .int .i64 (resP (parseF 257 [] (L s) false) s).2] ∧ Rows encA 10 G' v (resP (parseF 257 [] (L s) false) s).1 ∧ Ext G G' := by
    refine open_plain rfl fc_script_Parse rfl (Nat.le_of_ble_eq_true rfl) ?_
    simp
    have t0 : TkP (G.add (rowBlk 2 [.string s, .bool false])) G.next (L s) false := ⟨by simp, _, blk_add_new _ _, rfl, by rw [S_L]; rfl, rfl⟩
    refine wp_nxt (wp_for (PInvE G s) 257 ⟨[], L s, false, by simp, by simp, (Ext.refl G).add _, by simp, t0, by simpa using Own.nil, by simp, by simp, Nat.le_refl _, rfl⟩ ?_)
    rintro d e G' ⟨out, r, bad, rfl, ho, hE, hn, ht, hown, e4, e0, hr, hp⟩
    have hlen := hown.len
    have hls : (L s).length = s.size := L_length s
    have stop : ¬ (r ≠ [] ∧ bad = false ∧ out.length ≤ 256) → parseF 257 [] (L s) false = (out, bad) := fun h => by
      rw [hp]
      cases 257 - out.length with
      | zero => rfl
      | succ n => simp only [parseF]; rw [if_neg h]
    by_cases hgo : r ≠ [] ∧ bad = false ∧ out.length ≤ 256
    · obtain ⟨g1, rfl, g3⟩ := hgo
      have g1' : ¬ S r = ⟨#[]⟩ := fun h => g1 (S_nil.1 h)
      have g3' : (out.length : Int) ≤ 256 := by omega
      obtain ⟨X, x1, x2, x3⟩ := act_ok ht (by omega)
      have hownX : Own encA 10 (G.next + 1) X (e 5) out := hown.frame x3.next fun b hb1 hb2 _ => x3.blk b hb2 (by omega)
      obtain ⟨v', Y, y1, y2, y3, y4⟩ := own_push hownX (by have := x3.next; omega) (actF r false).c (by omega)
      have hstep : parseF (257 - out.length) out r false = parseF (257 - (out ++ [(actF r false).c]).length) (out ++ [(actF r false).c]) (actF r false).r (actF r false).bad := by
        rw [List.length_append, List.length_singleton, show 257 - out.length = (257 - (out.length + 1)) + 1 by omega]
        simp only [parseF]
        rw [if_pos ⟨g1, by first | rfl | trivial, g3⟩]
      have hal := actF_len r false
      have nx := x3.next
      have hone : (∀ (x : Value), x ∈ encA (actF r false).c → x.oneCell' = true) = True := eq_true (List.all_eq_true.1 (encA_one _))
      simp [c_script_Parse_l5, e4, e0, ht.c0, ht.c1, g1', hlen, g3', x1, encA_len, y1, hone]
      refine ⟨257 - (out.length + 1), by omega, out ++ [(actF r false).c], (actF r false).r, (actF r false).bad, by rw [List.length_append]; rfl, by simp; omega, ⟨by have := hE.next; omega, fun k hk => ?_⟩, by omega, x2.grow y3 (y4 _ (by omega)), by simpa using y2, by simpa using e4, by simpa using e0, by omega, by rw [hp, hstep]⟩
      rw [y4 k (by omega), x3.blk k (by have := hE.next; omega) (by omega), hE.blk k hk]
    · rw [stop hgo]
      have hsh := show_ok (e 5) out G' (hown.rows encA_len)
      rw [showV_eq] at hsh
      have hS : S [] = ⟨#[]⟩ := rfl
      have hrows := hown.rows encA_len
      have htrue : resP (out, true) s = ([], 2400) := by unfold resP; rw [if_neg (fun h => by cases h.1)]
      by_cases g1 : r = []
      · subst g1
        cases bad
        · skip
          by_cases h1 : (showS out).2 = 0
          · by_cases h2 : (showS out).1 = s
            · have hres : resP (out, false) s = (out, 0) := by unfold resP; rw [if_pos ⟨rfl, Prod.ext h2 h1⟩]
              simp [c_script_Parse_l5, e4, e0, ht.c0, ht.c1, hlen, hsh, hS, h1, h2, hres]
              obtain ⟨p5, c5, h5⟩ := hrows.slice
              exact ⟨_, ⟨by rw [h5], rfl⟩, e 5, rfl, hrows, hE⟩
            · have hres : resP (out, false) s = ([], 2400) := by unfold resP; rw [if_neg (fun h => h2 (congrArg Prod.fst h.2))]
              simp [c_script_Parse_l5, e4, e0, ht.c0, ht.c1, hlen, hsh, hS, h1, h2, hres]
              exact ⟨Rows.nil, hE⟩
          · have hres : resP (out, false) s = ([], 2400) := by unfold resP; rw [if_neg (fun h => h1 (congrArg Prod.snd h.2))]
            simp [c_script_Parse_l5, e4, e0, ht.c0, ht.c1, hlen, hsh, hS, h1, hres]
            exact ⟨Rows.nil, hE⟩
        · simp [c_script_Parse_l5, e4, e0, ht.c0, ht.c1, hlen, hsh, hS, htrue]
          exact ⟨Rows.nil, hE⟩
      · have g1' : ¬ S r = ⟨#[]⟩ := fun h => g1 (S_nil.1 h)
        cases bad
        · have g3 : ¬ (out.length : Int) ≤ 256 := fun h => hgo ⟨g1, rfl, by omega⟩
          by_cases h1 : (showS out).2 = 0
          · by_cases h2 : (showS out).1 = s
            · have hres : resP (out, false) s = (out, 0) := by unfold resP; rw [if_pos ⟨rfl, Prod.ext h2 h1⟩]
              simp [c_script_Parse_l5, e4, e0, ht.c0, ht.c1, hlen, hsh, g1', g3, h1, h2, hres]
              obtain ⟨p5, c5, h5⟩ := hrows.slice
              exact ⟨_, ⟨by rw [h5], rfl⟩, e 5, rfl, hrows, hE⟩
            · have hres : resP (out, false) s = ([], 2400) := by unfold resP; rw [if_neg (fun h => h2 (congrArg Prod.fst h.2))]
              simp [c_script_Parse_l5, e4, e0, ht.c0, ht.c1, hlen, hsh, g1', g3, h1, h2, hres]
              exact ⟨Rows.nil, hE⟩
          · have hres : resP (out, false) s = ([], 2400) := by unfold resP; rw [if_neg (fun h => h1 (congrArg Prod.snd h.2))]
            simp [c_script_Parse_l5, e4, e0, ht.c0, ht.c1, hlen, hsh, g1', g3, h1, hres]
            exact ⟨Rows.nil, hE⟩
        · simp [c_script_Parse_l5, e4, e0, ht.c0, ht.c1, hlen, hsh, g1', htrue]
          exact ⟨Rows.nil, hE⟩
  obtain ⟨u, G', h1, v, rfl, h2, h3⟩ := key
  exact ⟨v, G', h1, h2, h3⟩
end Go.AM
