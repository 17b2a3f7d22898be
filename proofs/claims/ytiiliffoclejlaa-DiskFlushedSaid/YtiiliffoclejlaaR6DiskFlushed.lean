import Derived.Test.YtiiliffoclejlaaR6CodeL
import Derived.Test.YtiiliffoclejlaaR6Va
import Derived.KernelRfl
/- The law DiskFlushed: true. -/
namespace Go.AM
open Go.Proofs
set_option linter.unusedVariables false
set_option linter.unusedSimpArgs false
set_option maxRecDepth 100000
attribute [-simp] ByteArray.size_eq_zero_iff
def zeros64 : List Value := List.replicate 64 (.int .i64 0)
def falses64 : List Value := List.replicate 64 (.bool false)
def falses4096 : List Value := List.replicate 4096 (.bool false)
theorem zeros64_len : zeros64.length = 64 := by rw [zeros64, List.length_replicate]
theorem falses64_len : falses64.length = 64 := by rw [falses64, List.length_replicate]
theorem falses4096_len : falses4096.length = 4096 := by rw [falses4096, List.length_replicate]
@[simp] def df_r4 : List Ir := [⟨(some 8), none, .new zeros64⟩]
@[simp] def df_r5 : List Ir := [⟨(some 9), none, .new falses4096⟩]
@[simp] def df_r25 : List Ir := [⟨(some 98), none, .mov (.t 16)⟩, ⟨(some 99), none, .build falses64 []⟩, ⟨(some 100), none, .iadrA 64 64 (.t 9) (.t 98)⟩, ⟨none, none, .st 64 (.t 100) (.t 99)⟩]
def df_l27 : IC := (.seq (.seq (.reg c_law2_DiskFlushed_r20) (.cond (.t 76) .skip (.exit 2))) (.seq (.block 3 (.seq (.reg c_law2_DiskFlushed_r21) (.seq (.seq (.reg c_law2_DiskFlushed_r22) (.cond (.t 92) (.seq (.reg c_law2_DiskFlushed_r23) .ret) .skip)) (.seq (.reg c_law2_DiskFlushed_r24) (.reg df_r25))))) (.reg c_law2_DiskFlushed_r26)))
def df_l29 : IC := (.seq (.seq (.reg c_law2_DiskFlushed_r7) (.cond (.t 33) .skip (.exit 0))) (.seq (.block 1 (.seq (.reg c_law2_DiskFlushed_r8) (.seq (.regd c_law2_DiskFlushed_r9 [(0, 5)]) (.seq (.seq (.reg c_law2_DiskFlushed_r10) (.cond (.t 54) (.seq (.reg c_law2_DiskFlushed_r11) .ret) .skip)) (.seq (.reg c_law2_DiskFlushed_r12) (.seq (.reg c_law2_DiskFlushed_r13) (.seq (.reg c_law2_DiskFlushed_r14) (.cond (.t 64) (.seq (.reg c_law2_DiskFlushed_r15) (.seq (.seq (.reg c_law2_DiskFlushed_r16) (.cond (.t 73) (.seq (.reg c_law2_DiskFlushed_r17) .ret) .skip)) (.seq (.reg c_law2_DiskFlushed_r18) (.seq (.reg c_law2_DiskFlushed_r19) (.block 2 (.loop df_l27)))))) .skip)))))))) (.reg c_law2_DiskFlushed_r28)))
def df_tail : IC := (.seq (.reg c_law2_DiskFlushed_r30) (.seq (.seq (.reg c_law2_DiskFlushed_r31) (.cond (.t 121) (.seq (.reg c_law2_DiskFlushed_r32) .ret) .skip)) (.seq (.seq (.reg c_law2_DiskFlushed_r33) (.block 4 (.loop c_law2_DiskFlushed_l39))) (.seq (.reg c_law2_DiskFlushed_r40) .ret))))
def dfCode : IFn := ⟨(.seq (.reg c_law2_DiskFlushed_r0) (.seq (.seq (.reg c_law2_DiskFlushed_r1) (.cond (.t 24) (.seq (.reg c_law2_DiskFlushed_r2) .ret) .skip)) (.seq (.reg c_law2_DiskFlushed_r3) (.seq (.reg df_r4) (.seq (.reg df_r5) (.seq (.seq (.reg c_law2_DiskFlushed_r6) (.block 0 (.loop df_l29))) df_tail)))))), 162, [.tmp 6]⟩
set_option maxRecDepth 1000000 in
theorem fc_df : fnAt Try.prog f_law2_DiskFlushed = some dfCode := fc_law2_DiskFlushed.trans (by kernel_rfl)
abbrev encN1 : Int → List Value := fun n => [.int .i64 n]
theorem sec_bt {v : Int} (h0 : 0 ≤ v) (h1 : v ≤ 255) : bt (sec v) 0 = v := by
  rw [bt_L, sec, L_strOfNums, wrap_u8 h0 h1]
  simp only [List.map_replicate]
  show (((List.replicate 64 (UInt8.ofNat v.toNat))[0]?.getD 0).toNat : Int) = v
  rw [List.getElem?_replicate, if_pos (by omega)]
  simp only [Option.getD_some, UInt8.toNat_ofNat']
  omega
/-! plain -/
structure PI (D : Dk) (o : Nat → Int) (se : Nat → Nat → Bool) : Prop where
  ok : dOk D = true
  scs : ∀ j, j < 64 → sg D.1 j = sec (o j) ∧ 0 ≤ o j ∧ o j ≤ 40
  ca : ∀ w ∈ D.2, ∃ k v : Nat, k < 64 ∧ v ≤ 40 ∧ w = ((k : Int), sec (v : Int)) ∧ se k v = true
theorem PI.write {D : Dk} {o : Nat → Int} {se : Nat → Nat → Bool} (h : PI D o se) {k i : Nat} (hk : k < 64) (hi : i < 40) (hok : dOk (D.1, D.2 ++ [((k : Int), sec (1 + (i : Int)))]) = true) : PI (D.1, D.2 ++ [((k : Int), sec (1 + (i : Int)))]) o (fun a v => if a = k ∧ v = 1 + i then true else se a v) :=
  ⟨hok, h.scs, fun w hw => by
    rcases List.mem_append.1 hw with hw | hw
    · obtain ⟨a, v, h1, h2, h3, h4⟩ := h.ca w hw
      exact ⟨a, v, h1, h2, h3, by rw [h4]; split <;> rfl⟩
    · rw [List.mem_singleton.1 hw]
      exact ⟨k, 1 + i, hk, by omega, by simp, by rw [if_pos ⟨rfl, rfl⟩]⟩⟩
theorem sg_step {S : List ByteArray} {a j : Nat} {t : ByteArray} (ha : a < S.length) : sg (S.set a t) j = if a = j then t else sg S j := sg_set ha
theorem apply_vals {S : List ByteArray} (hS : S.length = 394) : ∀ {C : List Img} {P : Nat → ByteArray → Prop}, (∀ w ∈ C, ∃ k : Nat, w.1 = (k : Int) ∧ k < 394 ∧ P k w.2) → ∀ j, P j (sg S j) → P j (sg (applyW S C) j) := by
  intro C
  induction C generalizing S with
  | nil => intro P _ j hj; exact hj
  | cons w C ih =>
    intro P hw j hj
    obtain ⟨k, hk, hk2, hp⟩ := hw w (by simp)
    rw [applyW, List.foldl_cons]
    refine ih (by simpa using hS) (fun x hx => hw x (by simp [hx])) j ?_
    rw [hk, Int.toNat_natCast, sg_set (by omega)]
    split
    · rename_i e; subst e; exact hp
    · exact hj
theorem crash_vals {keep : ByteArray} {S : List ByteArray} {C : List Img} {P : Nat → ByteArray → Prop} (hS : S.length = 394) (hw : ∀ w ∈ C, ∃ k : Nat, w.1 = (k : Int) ∧ k < 394 ∧ P k w.2) (j : Nat) (hj : P j (sg S j)) : ∀ i, i ≤ C.length → P j (sg (crN keep (-1) 0 S C i) j)
  | 0, _ => hj
  | i + 1, h => by
    have ih := crash_vals (keep := keep) hS hw j hj i (by omega)
    rw [crN_succ _ _ _ _ _ (show i < C.length by omega), crStep, if_neg (by omega)]
    split
    · obtain ⟨k, hk, hk2, hp⟩ := hw _ (List.getElem_mem (show i < C.length by omega))
      rw [hk, Int.toNat_natCast, sg_set (by rw [crN_len]; omega)]
      split
      · rename_i e; subst e; exact hp
      · exact ih
    · exact ih
theorem PI.flush {D : Dk} {o : Nat → Int} {se : Nat → Nat → Bool} (h : PI D o se) : ∃ oN : Nat → Int, PI (applyW D.1 D.2, []) oN (fun _ _ => false) := by
  have hl := (dOk_len h.ok).1
  have key : ∀ j, ∃ v : Int, j < 64 → sg (applyW D.1 D.2) j = Go.AM.sec v ∧ 0 ≤ v ∧ v ≤ 40 := fun j => by
    by_cases hj : j < 64
    · obtain ⟨v, hv⟩ := apply_vals hl (C := D.2) (P := fun a s => a < 64 → ∃ v : Int, s = Go.AM.sec v ∧ 0 ≤ v ∧ v ≤ 40) (fun w hw => by
        obtain ⟨k, v, h1, h2, rfl, _⟩ := h.ca w hw
        exact ⟨k, rfl, by omega, fun _ => ⟨v, rfl, by omega, by omega⟩⟩) j (fun hj => ⟨o j, h.scs j hj⟩) hj
      exact ⟨v, fun _ => hv⟩
    · exact ⟨0, fun h => absurd h hj⟩
  refine ⟨fun j => Classical.choose (key j), (doO_flush h.ok).2, fun j hj => Classical.choose_spec (key j) hj, fun w hw => by cases hw⟩
theorem PI.crash {D : Dk} {o : Nat → Int} {se : Nat → Nat → Bool} (h : PI D o se) (keep : ByteArray) {j : Nat} (hj : j < 64) :
    ∃ v : Nat, v ≤ 40 ∧ (crN keep (-1) 0 D.1 D.2 D.2.length)[j]? = some (Go.AM.sec (v : Int)) ∧ ((v : Int) = o j ∨ se j v = true) := by
  have hl := (dOk_len h.ok).1
  obtain ⟨v, h1, h2, h3⟩ := crash_vals (keep := keep) hl (C := D.2) (P := fun a s => a < 64 → ∃ v : Nat, v ≤ 40 ∧ s = Go.AM.sec (v : Int) ∧ ((v : Int) = o a ∨ se a v = true)) (fun w hw => by
    obtain ⟨k, v, h1, h2, rfl, h4⟩ := h.ca w hw
    exact ⟨k, rfl, by omega, fun _ => ⟨v, h2, rfl, .inr h4⟩⟩) j (fun hj => by
      obtain ⟨s1, s2, s3⟩ := h.scs j hj
      exact ⟨(o j).toNat, by omega, by rw [s1, Int.toNat_of_nonneg s2], .inl (Int.toNat_of_nonneg s2)⟩) D.2.length (Nat.le_refl _) hj
  refine ⟨v, h1, ?_, h3⟩
  rw [← h2, sg, List.getElem?_eq_getElem (by rw [crN_len]; omega)]; rfl
/-! memory -/
structure DF (lo : Nat) (G : Heap) (D : Dk) (o : Nat → Int) (se : Nat → Nat → Bool) (p : Option Addr) (n : Nat) (q : Option Addr) (m : Nat) (B5 BO BS : Blk) : Prop where
  lt : lo + 3 ≤ G.next
  b5 : G.blk lo = some B5
  r5 : B5.ro = false
  d0 : B5.at_ 0 = some (.slice p 394 n)
  d1 : B5.at_ 1 = some (.slice q D.2.length m)
  dk : DkR G (.agg #[.slice p 394 n, .slice q D.2.length m]) D
  far : ∀ k, lo ≤ k → k < lo + 3 → NotIn (.slice p 394 n) k ∧ NotIn (.slice q D.2.length m) k
  bo : G.blk (lo + 1) = some BO
  ro : BO.ro = false
  old : ∀ j, j < 64 → BO.at_ j = some (.int .i64 (o j))
  bs : G.blk (lo + 2) = some BS
  rs : BS.ro = false
  seen : ∀ j v, j < 64 → v < 64 → BS.at_ (j * 64 + v) = some (.bool (se j v))
section
variable {lo : Nat} {G : Heap} {D : Dk} {o : Nat → Int} {se : Nat → Nat → Bool} {p q : Option Addr} {n m : Nat} {B5 BO BS : Blk}
theorem DF.ext (h : DF lo G D o se p n q m B5 BO BS) {G' : Heap} (hE : Ext G G') : DF lo G' D o se p n q m B5 BO BS := by
  have := h.lt; have := hE.next
  exact { h with lt := by omega, b5 := by rw [hE.blk _ (by omega), h.b5], dk := h.dk.ext hE, bo := by rw [hE.blk _ (by omega), h.bo], bs := by rw [hE.blk _ (by omega), h.bs] }
theorem DF.c5 (h : DF lo G D o se p n q m B5 BO BS) : G.cell lo = B5.at_ := by funext a; simp only [Heap.cell, h.b5]
theorem DF.co (h : DF lo G D o se p n q m B5 BO BS) : G.cell (lo + 1) = BO.at_ := by funext a; simp only [Heap.cell, h.bo]
theorem DF.cs (h : DF lo G D o se p n q m B5 BO BS) : G.cell (lo + 2) = BS.at_ := by funext a; simp only [Heap.cell, h.bs]
theorem DF.setO (h : DF lo G D o se p n q m B5 BO BS) {j : Nat} (hj : j < 64) (x : Int) : DF lo (G.set (lo + 1) (some (BO.put j (.int .i64 x)))) D (fun i => if i = j then x else o i) se p n q m B5 (BO.put j (.int .i64 x)) BS :=
  { h with
    lt := by simpa using h.lt, b5 := by rw [blk_set_ne (by omega)]; exact h.b5, dk := h.dk.setB (h.far _ (by omega) (by omega)).1 (h.far _ (by omega) (by omega)).2 _, bo := blk_set_self _ _ _, ro := h.ro, bs := by rw [blk_set_ne (by omega)]; exact h.bs,
    old := fun i hi => by
      rw [at_put]
      split
      · rfl
      · exact h.old i hi }
theorem DF.setS (h : DF lo G D o se p n q m B5 BO BS) {j v : Nat} (hj : j < 64) (hv : v < 64) (x : Bool) : DF lo (G.set (lo + 2) (some (BS.put (j * 64 + v) (.bool x)))) D o (fun a b => if a = j ∧ b = v then x else se a b) p n q m B5 BO (BS.put (j * 64 + v) (.bool x)) :=
  { h with
    lt := by simpa using h.lt, b5 := by rw [blk_set_ne (by omega)]; exact h.b5, dk := h.dk.setB (h.far _ (by omega) (by omega)).1 (h.far _ (by omega) (by omega)).2 _, bo := by rw [blk_set_ne (by omega)]; exact h.bo, bs := blk_set_self _ _ _, rs := h.rs,
    seen := fun a b ha hb => by
      rw [at_put]
      by_cases e : a = j ∧ b = v
      · obtain ⟨rfl, rfl⟩ := e; rw [if_pos rfl, if_pos ⟨rfl, rfl⟩]
      · rw [if_neg (fun h => e (by omega)), if_neg e]; exact h.seen a b ha hb }
theorem at_puts (B : Blk) (x : Value) : ∀ (k o j : Nat), (B.puts o (List.replicate k x)).at_ j = if o ≤ j ∧ j < o + k then some x else B.at_ j
  | 0, o, j => by rw [List.replicate_zero, puts_nil, if_neg (by omega)]
  | k + 1, o, j => by
    rw [List.replicate_succ, puts_cons, at_puts _ x k (o + 1) j, at_put]
    by_cases h1 : o + 1 ≤ j ∧ j < o + 1 + k
    · rw [if_pos h1, if_pos (by omega)]
    · rw [if_neg h1]
      by_cases h2 : j = o
      · rw [if_pos h2, if_pos (by omega)]
      · rw [if_neg h2, if_neg (by omega)]
theorem ro_puts (B : Blk) : ∀ (vs : List Value) (o : Nat), (B.puts o vs).ro = B.ro
  | [], o => rfl
  | v :: vs, o => by rw [puts_cons, ro_puts]; rfl
theorem DF.clr (h : DF lo G D o se p n q m B5 BO BS) {j : Nat} (hj : j < 64) : G.store (lo + 2) (j * 64) falses64 = some (G.set (lo + 2) (some (BS.puts (j * 64) falses64))) ∧ DF lo (G.set (lo + 2) (some (BS.puts (j * 64) falses64))) D o (fun a b => if a = j then false else se a b) p n q m B5 BO (BS.puts (j * 64) falses64) :=
  ⟨store_rep h.bs h.rs rfl (fun i hi => by rw [h.seen j i hj hi]; rfl) (by omega),
   { h with
    lt := by simpa using h.lt, b5 := by rw [blk_set_ne (by omega)]; exact h.b5, dk := h.dk.setB (h.far _ (by omega) (by omega)).1 (h.far _ (by omega) (by omega)).2 _, bo := by rw [blk_set_ne (by omega)]; exact h.bo, bs := blk_set_self _ _ _, rs := by rw [ro_puts]; exact h.rs,
     seen := fun a b ha hb => by
      rw [falses64, at_puts]
      by_cases e : a = j
      · subst e; rw [if_pos (by omega), if_pos rfl]
      · rw [if_neg (by omega), if_neg e]; exact h.seen a b ha hb }⟩
theorem DF.setD (h : DF lo G D o se p n q m B5 BO BS) {D' : Dk} {p' q' : Option Addr} {n' m' : Nat} (hd : DkR G (.agg #[.slice p' 394 n', .slice q' D'.2.length m']) D') (hf : ∀ k, lo ≤ k → k < lo + 3 → NotIn (.slice p' 394 n') k ∧ NotIn (.slice q' D'.2.length m') k) :
    DF lo (G.set lo (some ((B5.put 0 (.slice p' 394 n')).put 1 (.slice q' D'.2.length m')))) D' o se p' n' q' m' ((B5.put 0 (.slice p' 394 n')).put 1 (.slice q' D'.2.length m')) BO BS :=
  { lt := by simpa using h.lt, b5 := blk_set_self _ _ _, r5 := h.r5, d0 := by simp, d1 := by simp, dk := hd.setB (hf _ (by omega) (by omega)).1 (hf _ (by omega) (by omega)).2 _, far := hf, bo := by rw [blk_set_ne (by omega)]; exact h.bo, ro := h.ro, old := h.old, bs := by rw [blk_set_ne (by omega)]; exact h.bs, rs := h.rs, seen := h.seen }
end
theorem DF.congr {lo : Nat} {G : Heap} {D : Dk} {o o' : Nat → Int} {se se' : Nat → Nat → Bool} {p q : Option Addr} {n m : Nat} {B5 BO BS : Blk} (h : DF lo G D o se p n q m B5 BO BS) (h1 : ∀ j, j < 64 → o j = o' j) (h2 : ∀ j v, j < 64 → v < 64 → se j v = se' j v) : DF lo G D o' se' p n q m B5 BO BS :=
  { h with old := fun j hj => by rw [h.old j hj, h1 j hj], seen := fun j v hj hv => by rw [h.seen j v hj hv, h2 j v hj hv] }
/-- what was flushed is read, place by place -/
theorem df_inner {lo : Nat} {e : Env} {G : Heap} {D : Dk} {o oN : Nat → Int} {se : Nat → Nat → Bool} {p q : Option Addr} {n m : Nat} {B5 BO BS : Blk} (h : DF lo G D o se p n q m B5 BO BS) (hP : PI D oN (fun _ _ => false)) (hc : D.2 = [])
    (h7 : e 7 = .pointer (some ⟨lo, 0, none⟩)) (h8 : e 8 = .pointer (some ⟨lo + 1, 0, none⟩)) (h9 : e 9 = .pointer (some ⟨lo + 2, 0, none⟩)) (h16 : e 16 = .int .i64 0) :
    wp (unblock 2 (run K (.loop df_l27) e G)) fun x e' H' => x = .norm ∧ (∀ b, b < lo → H'.blk b = G.blk b) ∧ H'.next = G.next ∧ (∃ BO BS, DF lo H' D oN (fun _ _ => false) p n q m B5 BO BS) ∧ e' 0 = e 0 ∧ e' 1 = e 1 ∧ e' 2 = e 2 ∧ e' 7 = e 7 ∧ e' 8 = e 8 ∧ e' 9 = e 9 ∧ e' 10 = e 10 := by
  refine wp_for (fun d e' G' => ∃ (j : Nat) (BO BS : Blk), d = 64 - j ∧ j ≤ 64 ∧ (∀ b, b < lo → G'.blk b = G.blk b) ∧ G'.next = G.next ∧ DF lo G' D (fun i => if i < j then oN i else o i) (fun a b => !decide (a < j) && se a b) p n q m B5 BO BS ∧ e' 0 = e 0 ∧ e' 1 = e 1 ∧ e' 2 = e 2 ∧ e' 7 = e 7 ∧ e' 8 = e 8 ∧ e' 9 = e 9 ∧ e' 10 = e 10 ∧ e' 16 = .int .i64 (j : Int)) 64 ⟨0, BO, BS, by omega, by omega, fun _ _ => rfl, rfl, h.congr (fun _ _ => rfl) (fun _ _ _ _ => rfl), rfl, rfl, rfl, rfl, rfl, rfl, rfl, h16⟩ ?_
  rintro d e' G' ⟨j, BO', BS', rfl, hj, hlow, hnx, hF, k0, k1, k2, k7, k8, k9, k10, k16⟩
  rw [h7] at k7
  rw [h8] at k8
  rw [h9] at k9
  by_cases hlt : j < 64
  · obtain ⟨s1, s2, s3⟩ := hP.scs j hlt
    have c1 := readD_ok hF.dk (j : Int)
    obtain ⟨r1, r2⟩ := do_read hP.ok (k := j) (by omega)
    have hlk : lookD D (j : Int) = sec (oN j) := by
      obtain ⟨S, C⟩ := D
      simp only at hc
      subst hc
      rw [← s1]; exact vw_nil S j
    rw [r1, r2, hlk] at c1
    have g1 : (j : Int) < 64 := by omega
    have hz := sec_size (oN j)
    have hb := sec_bt s2 (show oN j ≤ 255 by omega)
    have wb : IntKind.i64.wrap (oN j) = oN j := wrap_i64 (by omega) (by omega)
    have w2 : IntKind.i64.wrap ((j : Int) + 1) = ((j + 1 : Nat) : Int) := wrap_succ (by omega)
    have hO := hF.setO hlt (oN j)
    obtain ⟨st, hS⟩ := hO.clr hlt
    have c5 := hF.c5; have d0 := hF.d0; have d1 := hF.d1; have co := hF.co; have bo := hF.bo; have ro := hF.ro
    have hold := hF.old j hlt
    have fl := falses64_len
    have st1 : G'.store (lo + 1) j [.int .i64 (oN j)] = some (G'.set (lo + 1) (some (BO'.put j (.int .i64 (oN j))))) := by simp [bo, ro, co, hold]
    simp [-Heap.store, df_l27, k0, k1, k2, k7, k8, k9, k10, k16, h7, h8, h9, g1, hlt, c5, d0, d1, c1, hz, hb, wb, co, hold, bo, ro, fl, st1, st, w2]
    refine ⟨64 - (j + 1), by omega, j + 1, by omega, by omega, fun b hb => ?_, hnx, ⟨_, _, hS.congr (fun i hi => ?_) (fun a b ha hb => ?_)⟩, by omega⟩
    · rw [if_neg (by omega), if_neg (by omega)]; exact hlow b hb
    · by_cases e : i = j
      · subst e; simp
      · simp only [if_neg e]
        by_cases e2 : i < j
        · rw [if_pos e2, if_pos (by omega)]
        · rw [if_neg e2, if_neg (by omega)]
    · by_cases e : a = j
      · subst e; simp
      · simp only [if_neg e]
        by_cases e2 : a < j
        · simp [e2, show a < j + 1 by omega]
        · simp [e2, show ¬ a < j + 1 by omega]
  · obtain rfl : j = 64 := by omega
    simp [df_l27, k0, k1, k2, k7, k8, k9, k10, k16, h7, h8, h9]
    exact ⟨hlow, hnx, ⟨BO', BS', hF.congr (fun i hi => by rw [if_pos hi]) (fun a b ha hb => by simp [ha])⟩⟩
theorem df_end {lo : Nat} {e : Env} {G : Heap} {D : Dk} {o : Nat → Int} {se : Nat → Nat → Bool} {p q : Option Addr} {n m : Nat} {B5 BO BS : Blk} {keep : ByteArray} (h : DF lo G D o se p n q m B5 BO BS) (hP : PI D o se)
    (h2 : e 2 = .string keep) (h7 : e 7 = .pointer (some ⟨lo, 0, none⟩)) (h8 : e 8 = .pointer (some ⟨lo + 1, 0, none⟩)) (h9 : e 9 = .pointer (some ⟨lo + 2, 0, none⟩)) :
    wp (run K df_tail e G) fun x e' H' => x = .ret ∧ e' 6 = .bool true := by
  obtain ⟨_, g, u, X, v, rfl, oc⟩ := crash_ok _ D keep (-1) 0 G h.dk
  obtain ⟨i1, i2, i3⟩ := do_crash hP.ok keep (-1) (at_ := 0) ⟨by omega, by omega⟩
  rw [i1] at oc
  rw [i2] at u
  obtain ⟨p1, n1, q1, m1, A, rfl, hA, nA, Y, F⟩ := stage1 oc.dk (by rw [crN_len]; exact (dOk_len hP.ok).1) (n := 0) rfl
  obtain ⟨z0, z1, DZ⟩ := F A (Ext.refl _)
  have hF := h.ext (X.trans Y)
  have c5 := h.c5; have d0 := h.d0; have d1 := h.d1
  have co := hF.co; have cs := hF.cs
  simp [df_tail, h2, h7, h8, h9, c5, d0, d1, u, ← hA, z0, z1]
  refine wp_nxt (wp_for (fun d e G => ∃ j : Nat, d = 64 - j ∧ j ≤ 64 ∧ G = A ∧ e 8 = .pointer (some ⟨lo + 1, 0, none⟩) ∧ e 9 = .pointer (some ⟨lo + 2, 0, none⟩) ∧ e 19 = .pointer (some ⟨g.next, 0, none⟩) ∧ e 21 = .int .i64 (j : Int)) 64 ⟨0, by omega, by omega, rfl, by simp [h8], by simp [h9], by simp, by simp⟩ ?_)
  rintro d e G ⟨j, rfl, hj, rfl, k8, k9, k19, k21⟩
  by_cases hlt : j < 64
  · obtain ⟨v, hv, hcr, hor⟩ := hP.crash keep hlt
    obtain ⟨_, _, ee, S, _⟩ := DZ
    obtain ⟨rfl, _⟩ : Value.slice p1 394 n1 = _ ∧ Value.slice q1 0 m1 = _ := by simpa using ee
    obtain ⟨hl, hx⟩ := List.getElem?_eq_some_iff.1 hcr
    obtain ⟨en, b, o1, rfl, hb, hc⟩ := S.at_ hl
    have hcell := hc 0 (by omega)
    simp only [Nat.mul_one, Nat.add_zero] at hcell
    rw [hx] at hcell
    have hcell' : Heap.cell _ b (o1 + j) = some (.string (sec (v : Int))) := hcell
    have g1 : (j : Int) < 64 := by omega
    have j394 : j < 394 := by omega
    have hz := sec_size (v : Int)
    have hbt := sec_bt (v := (v : Int)) (by omega) (by omega)
    have wv : IntKind.i64.wrap (v : Int) = v := wrap_i64 (by omega) (by omega)
    have a63 : bits .and .i64 (v : Int) 63 = (v : Int) := by rw [and63']; omega
    have v64 : v < 64 := by omega
    have hold := h.old j hlt
    have hseen := h.seen j v hlt v64
    have w2 : IntKind.i64.wrap ((j : Int) + 1) = ((j + 1 : Nat) : Int) := wrap_succ (by omega)
    by_cases hvo : (v : Int) = o j
    · have hve : ((v : Int) = o j) = True := eq_true hvo
      simp [df_tail, c_law2_DiskFlushed_l39, k8, k9, k19, k21, g1, hlt, j394, z0, hcell', hz, hbt, wv, sector_ok, co, hold, hve, w2]
      exact ⟨64 - (j + 1), by omega, j + 1, by omega, by omega, by omega⟩
    · have hs := hor.resolve_left hvo
      rw [hs] at hseen
      simp [df_tail, c_law2_DiskFlushed_l39, k8, k9, k19, k21, g1, hlt, j394, z0, hcell', hz, hbt, wv, sector_ok, co, hold, hvo, a63, v64, cs, hseen, w2]
      exact ⟨64 - (j + 1), by omega, j + 1, by omega, by omega, by omega⟩
  · obtain rfl : j = 64 := by omega
    simp [c_law2_DiskFlushed_l39, k21]
theorem sec_zero' : sec 0 = zer 64 := by
  rw [sec, show IntKind.u8.wrap 0 = 0 by decide, str_zero]
theorem flushed_law (v : Value) (ats : List Int) (fls : Int) (keep : ByteArray) (H : Heap) (hv : Rows encN1 1 H v ats) : call K f_law2_DiskFlushed [v, .int .i64 fls, .string keep] H = some (.bool true, H) := by
  obtain ⟨p, c, rfl⟩ := hv.slice
  refine of_wpf (open_pure rfl fc_df rfl (Nat.le_of_ble_eq_true rfl) ?_)
  obtain ⟨_, G1, c1, E1, D1⟩ := new_ok H.roAll
  obtain ⟨p5, k5, q5, m5, A0, rfl, hA0, n0, X0, F0⟩ := stage1 D1 newD_len (n := 0) rfl
  obtain ⟨A, hA⟩ : ∃ A, A = (A0.add (rowBlk zeros64.length zeros64)).add (rowBlk falses4096.length falses4096) := ⟨_, rfl⟩
  have EA : Ext A0 A := by rw [hA]; exact ((Ext.refl _).add _).add _
  obtain ⟨a50, a51, D5⟩ := F0 A EA
  obtain ⟨lo, hlo⟩ : ∃ lo, lo = G1.next := ⟨_, rfl⟩
  have hF0 : DF lo A newD (fun _ => 0) (fun _ _ => false) p5 k5 q5 m5 _ (rowBlk zeros64.length zeros64) (rowBlk falses4096.length falses4096) := {
    lt := by rw [hA]; simp; omega
    b5 := by rw [hlo, EA.blk _ (by omega), hA0, blk_set_self]
    r5 := rfl
    d0 := by simp
    d1 := by simp [newD]
    dk := D5
    far := fun k h1 h2 => D1.far (by omega)
    bo := by rw [hA, blk_add, if_neg (by simp; omega), blk_add, if_pos (by omega)]
    ro := rfl
    old := fun j hj => by rw [at_row, zeros64, List.getElem?_replicate, if_pos hj]
    bs := by rw [hA, blk_add, if_pos (by simp; omega)]
    rs := rfl
    seen := fun j v hj hv => by rw [at_row, falses4096, List.getElem?_replicate, if_pos (by omega)] }
  have hP0 : PI newD (fun _ => 0) (fun _ _ => false) := ⟨newD_ok, fun j hj => ⟨by rw [sec_zero', newD, sg, List.getElem?_replicate, nSec_eq, if_pos (by omega)]; rfl, by omega, by omega⟩, fun w hw => by cases hw⟩
  have hlim := hv.lim
  have hE0 := E1.trans (X0.trans EA)
  have hGn := E1.next
  simp only [next_roAll] at hGn
  simp [dfCode, awake2_ok, c1, ← hA0, ← hA]
  rw [← hlo, show A0.next = lo + 1 by omega]
  refine wp_nxt (wp_for (fun d e G => ∃ (i : Nat) (D : Dk) (o : Nat → Int) (se : Nat → Nat → Bool) (ps qs : Option Addr) (ns ms : Nat) (B5 BO BS : Blk), d = 40 - i ∧ i ≤ 40 ∧ i ≤ ats.length ∧ (∀ b, b < H.next → G.blk b = H.roAll.blk b) ∧ DF lo G D o se ps ns qs ms B5 BO BS ∧ PI D o se ∧ D.2.length ≤ i ∧ e 0 = .slice p ats.length c ∧ e 1 = .int .i64 fls ∧ e 2 = .string keep ∧ e 7 = .pointer (some ⟨lo, 0, none⟩) ∧ e 8 = .pointer (some ⟨lo + 1, 0, none⟩) ∧ e 9 = .pointer (some ⟨lo + 2, 0, none⟩) ∧ e 10 = .int .i64 (i : Int)) 40 ⟨0, newD, fun _ => 0, fun _ _ => false, p5, q5, k5, m5, _, _, _, by omega, by omega, by omega, fun b hb => hE0.blk b (by simpa using hb), hF0, hP0, by simp [newD], by simp, by simp, by simp, by simp, by simp, by simp, by simp⟩ ?_)
  rintro d e G ⟨i, D, o, se, ps, qs, ns, ms, B5, BO, BS, rfl, hi, hia, hlow, hF, hP, hDl, h0, h1, h2, h7, h8, h9, h10⟩
  by_cases hgo : i < 40 ∧ i < ats.length
  · obtain ⟨hi40, hil⟩ := hgo
    obtain ⟨ba, oa, hp, hba, ka⟩ := hv.at1 hil
    generalize ats[i] = x at *
    subst hp
    simp at ka
    have kG : G.cell ba (oa + i) = some (.int .i64 x) := by
      have : G.cell ba (oa + i) = H.roAll.cell ba (oa + i) := by simp only [Heap.cell, hlow ba hba]
      rw [this, cell_roAll, ka]
    obtain ⟨w, hw, hw1, hw2⟩ : ∃ w : Nat, bits .and .i64 x 63 = (w : Int) ∧ x % 64 = (w : Int) ∧ w < 64 := ⟨(x % 64).toNat, by rw [and63']; omega, by omega, by omega⟩
    have w1 : IntKind.i64.wrap (1 + (i : Int)) = 1 + (i : Int) := wrap_i64 (by omega) (by omega)
    have w2 := wrap_succ (i := i) (by omega)
    have g1 : (i : Int) < 40 := by omega
    have c5 := hF.c5; have d0 := hF.d0; have d1 := hF.d1
    have hHl : H.next ≤ lo := by omega
    -- the write
    obtain ⟨f1, f2, f3⟩ := do_write hP.ok (k := w) (t := sec (1 + (i : Int))) (by omega) (sec_size _) (by omega)
    obtain ⟨_, G3, c3, E3, v9, rfl, o3⟩ := do_ok _ D false (w : Int) (sec (1 + (i : Int))) _ (hF.dk.ext ((Ext.refl G).add (rowBlk 2 [.slice none 0 0, .slice none 0 0])))
    rw [f1] at o3
    rw [f2] at c3
    have hPw := hP.write hw2 hi40 f3
    obtain ⟨D9, hD9⟩ : ∃ D9 : Dk, D9 = (D.1, D.2 ++ [((w : Int), sec (1 + (i : Int)))]) := ⟨_, rfl⟩
    have hD9l : D9.2.length ≤ i + 1 := by rw [hD9]; simp; omega
    rw [← hD9] at o3 f3 hPw
    obtain ⟨p9, n9, q9, m9, A3, rfl, b3, cb3, hA3, n3, l3, X3, F3⟩ := stage2 E3 o3 (by rw [hD9]; exact (dOk_len hP.ok).1) (n := D9.2.length) rfl
    obtain ⟨c90, c91, D9r⟩ := F3 A3 (Ext.refl _)
    have hF3 := hF.ext X3
    have hlt := hF.lt
    have hF4 := hF3.setD D9r (fun k h1 h2 => o3.far3 (by simp; omega))
    obtain ⟨A4, hA4⟩ : ∃ A4, A4 = A3.set lo (some ((B5.put 0 (.slice p9 394 n9)).put 1 (.slice q9 D9.2.length m9))) := ⟨_, rfl⟩
    rw [← hA4] at hF4
    have hF5 := hF4.setS hw2 (v := 1 + i) (by omega) true
    obtain ⟨A5, hA5⟩ : ∃ A5, A5 = A4.set (lo + 2) (some (BS.put (w * 64 + (1 + i)) (.bool true))) := ⟨_, rfl⟩
    rw [← hA5] at hF5
    have hseen := hF4.seen w (1 + i) hw2 (by omega)
    have st1 : A4.store (lo + 2) (w * 64 + (1 + i)) [.bool true] = some A5 := by rw [hA5]; simp [hF4.bs, hF4.rs, hF4.cs, hseen]
    have b53 := hF3.b5; have c53 := hF3.c5; have r53 := hF3.r5
    have w64 : (w : Int) < 64 := by omega
    have nadd : natOf (.int .i64 (1 + (i : Int))) = some (1 + i) := by rw [show (1 + (i : Int)) = ((1 + i : Nat) : Int) by omega]; exact natOf_cast _ _
    have i64 : 1 + i < 64 := by omega
    have hlow5 : ∀ b, b < H.next → A5.blk b = H.roAll.blk b := fun b hb => by rw [hA5, blk_set_ne (by omega), hA4, blk_set_ne (by omega), X3.blk _ (by omega)]; exact hlow b hb
    obtain ⟨fl, hfl, hfl2⟩ : ∃ k : Nat, bits .and .i64 fls 63 = (k : Int) ∧ k < 64 := ⟨(fls % 64).toNat, by rw [and63']; omega, by omega⟩
    have hcG : (G.add (rowBlk 2 [.slice none 0 0, .slice none 0 0])).cell lo = B5.at_ := (hF.ext ((Ext.refl G).add _)).c5
    have nlo : ¬ lo = G.next := by omega
    have hil' : (i : Int) < (ats.length : Int) := by omega
    have bs4 := hF4.bs; have rs4 := hF4.rs; have cs4 := hF4.cs
    by_cases hfi : i = fl
    · -- .. and a flush
      subst hfi
      obtain ⟨oN, hPn⟩ := hPw.flush
      obtain ⟨y1, y2, y3⟩ := do_flush hPw.ok
      obtain ⟨_, G6, c6, E6, v6, rfl, o6⟩ := do_ok _ D9 true 0 ⟨#[]⟩ A5 hF5.dk
      rw [y1] at o6
      rw [y2] at c6
      obtain ⟨p7, n7, q7, m7, A7, rfl, hA7, n7', X7, F7⟩ := stage1 o6.dk (dOk_len y3).1 (n := 0) rfl
      obtain ⟨z70, z71, D7⟩ := F7 A7 (Ext.refl _)
      have E57 : Ext A5 A7 := E6.trans X7
      have hF7 := hF5.ext E57
      have lt5 := hF5.lt
      have hF8 := hF7.setD (D' := (applyW D9.1 D9.2, [])) D7 (fun k h1 h2 => o6.far3 (by omega))
      obtain ⟨A8, hA8⟩ : ∃ A8, A8 = A7.set lo (some ((((B5.put 0 (.slice p9 394 n9)).put 1 (.slice q9 D9.2.length m9)).put 0 (.slice p7 394 n7)).put 1 (.slice q7 0 m7))) := ⟨_, rfl⟩
      rw [show (applyW D9.1 D9.2, ([] : List Img)).2.length = 0 from rfl, ← hA8] at hF8
      have c55 := hF5.c5; have d50 := hF5.d0; have d51 := hF5.d1
      have b57 := hF7.b5; have c57 := hF7.c5; have r57 := hF7.r5
      have hlow8 : ∀ b, b < H.next → A8.blk b = H.roAll.blk b := fun b hb => by rw [hA8, blk_set_ne (by omega), E57.blk _ (by omega)]; exact hlow5 b hb
      simp [df_l29, h0, h1, h2, h7, h8, h9, h10, g1, hil, hil', kG, hw, w1, run_regd_tr, finD_some, Chk, wanted, c5, d0, d1, hcG, nlo, sector_ok, c3, b3, cb3, ← hA3, c90, c91, b53, c53, r53, ← hA4, w64, hw2, nadd, i64, bs4, rs4, cs4, hseen, ← hA5, hfl, c55, c6, ← hA7, z70, z71, b57, c57, r57, ← hA8]
      refine wp_nxt (wp_unblock ((df_inner hF8 hPn rfl (by simp [h7]) (by simp [h8]) (by simp [h9]) (by simp)).mono fun x e' H' hq => ?_))
      obtain ⟨rfl, hl8, hn8, ⟨BO', BS', hF9⟩, q0, q1, q2, q7', q8, q9', q10⟩ := hq
      simp [h0, h1, h2, h7, h8, h9, h10] at q0 q1 q2 q7' q8 q9' q10
      simp [q0, q1, q2, q7', q8, q9', q10, w2]
      exact ⟨40 - (i + 1), by omega, i + 1, rfl, by omega, by omega, fun b hb => by rw [← blk_roAll, hl8 b (by omega)]; exact hlow8 b hb, (applyW D9.1 D9.2), [], oN, _, ⟨_, _, _, _, _, _, _, hF9⟩, hPn, by simp, by omega⟩
    · have hfi' : ¬ (i : Int) = (fl : Int) := by omega
      simp [df_l29, h0, h1, h2, h7, h8, h9, h10, g1, hil, hil', kG, hw, w1, run_regd_tr, finD_some, Chk, wanted, c5, d0, d1, hcG, nlo, sector_ok, c3, b3, cb3, ← hA3, c90, c91, b53, c53, r53, ← hA4, w64, hw2, nadd, i64, bs4, rs4, cs4, hseen, ← hA5, hfl, hfi, hfi', w2]
      exact ⟨40 - (i + 1), by omega, i + 1, rfl, by omega, by omega, fun b hb => by rw [← blk_roAll]; exact hlow5 b hb, D9.1, D9.2, o, _, ⟨_, _, _, _, _, _, _, hF5⟩, hPw, hD9l, by omega⟩
  · by_cases h40 : i < 40
    · have hil : ¬ (i : Int) < (ats.length : Int) := by omega
      simp [df_l29, h0, h10, hil]
      refine wp.mono (df_end (keep := keep) hF hP (by simp [h2]) (by simp [h7]) (by simp [h8]) (by simp [h9])) ?_
      rintro _ e' H' ⟨rfl, h⟩
      simp [h]
    · obtain rfl : i = 40 := by omega
      by_cases hil : (40 : Int) < (ats.length : Int)
      · have hil' : 40 < ats.length := by omega
        simp [df_l29, h0, h10, hil]
        refine wp.mono (df_end (keep := keep) hF hP (by simp [h2]) (by simp [h7]) (by simp [h8]) (by simp [h9])) ?_
        rintro _ e' H' ⟨rfl, h⟩
        simp [h]
      · simp [df_l29, h0, h10, hil]
        refine wp.mono (df_end (keep := keep) hF hP (by simp [h2]) (by simp [h7]) (by simp [h8]) (by simp [h9])) ?_
        rintro _ e' H' ⟨rfl, h⟩
        simp [h]
end Go.AM
