/- How great is what comes in. -/
import Derived.Test.YtbebofneobfngaaG
namespace Go.Proofs.Ytbebofneobfngaa
open Go.RowKit

def mostN : Int := 1099511627776
def sumI (n : Int) : List Int → Int
  | [] => n
  | x :: l => if mostN - n < x then mostN else sumI (n + x) l

theorem sumI_bd (n : Int) (l : List Int) (hn : 0 ≤ n ∧ n ≤ mostN) (hl : ∀ x ∈ l, 0 ≤ x) : n ≤ sumI n l ∧ sumI n l ≤ mostN := by
  induction l generalizing n with
  | nil => exact ⟨Int.le_refl _, hn.2⟩
  | cons x l ih =>
    have hx := hl x (by simp)
    unfold sumI
    split
    · exact ⟨hn.2, Int.le_refl _⟩
    · have := ih (n + x) ⟨by omega, by omega⟩ (fun y hy => hl y (by simp [hy]))
      omega

set_option maxHeartbeats 800000 in
theorem sum_any (xs : List Int) (n : Int) (b c : Nat) (w : World) (hn : 0 ≤ n ∧ n ≤ 1099511627776) (hx : ∀ x ∈ xs, 0 ≤ x) (hl : xs.length ≤ 1000) (hc : ∀ k x, xs[k]? = some x → w.cell? ⟨b, k, none⟩ = some (.int .i64 x)) :
    Calls Try.prog 15 #[.int .i64 n, .slice (some ⟨b, 0, none⟩) xs.length c] w fun e w' => e = .returned (.int .i64 (sumI n xs)) ∧ w = w' := by
  have HC := Lib.hid hc; clear hc
  go_enter Try.func15, Try.ntmps15
  go_wp2
  go_loop [0, 5] (fun s i => ∃ (k : Nat) (q : Int), k ≤ xs.length ∧ i = .int .i64 k ∧ s = .int .i64 q ∧ 0 ≤ q ∧ q ≤ 1099511627776 ∧ sumI q (xs.drop k) = sumI n xs) (fun _ i => xs.length - (intOf i).toNat)
  case atStart => exact ⟨0, n, Nat.zero_le _, rfl, rfl, hn.1, hn.2, rfl⟩
  case round =>
    obtain ⟨k, q, hk, rfl, rfl, hq0, hq1, hr⟩ := hrel
    have HR := Lib.hid hr; clear hr
    by_cases hlt : k < xs.length
    · have hck := HC.out k xs[k] (List.getElem?_eq_getElem hlt)
      have hxk := hx xs[k] (List.getElem_mem hlt)
      have hd : sumI q (xs.drop k) = if mostN - q < xs[k] then mostN else sumI (q + xs[k]) (xs.drop (k + 1)) := by
        rw [List.drop_eq_getElem_cons hlt]; rfl
      have HD := Lib.hid hd; clear hd
      by_cases hg : 1099511627776 - q < xs[k]
      · go_wp2
        go_ret
        exact ⟨ret_int (by rw [← HR.out, HD.out, if_pos (by unfold mostN; omega)]; rfl), rfl⟩
      · go_wp2
        go_round
        case rel => exact ⟨k + 1, q + xs[k], by omega, by go_num, by go_num, by omega, by omega, by rw [← HR.out, HD.out, if_neg (by unfold mostN; omega)]⟩
        case measure => simp [intOf]; omega
    · go_wp2
      go_ret
      exact ⟨ret_int (by rw [← HR.out, List.drop_eq_nil_of_le (by omega)]; rfl), rfl⟩

theorem sum1 (x n : Int) (b c : Nat) (w : World) (hn : 0 ≤ n ∧ n ≤ 1099511627776) (hx : 0 ≤ x) (h0 : w.cell? ⟨b, 0, none⟩ = some (.int .i64 x)) :
    Calls Try.prog 15 #[.int .i64 n, .slice (some ⟨b, 0, none⟩) 1 c] w fun e w' => e = .returned (.int .i64 (sumI n [x])) ∧ w = w' :=
  sum_any [x] n b c w hn (by simpa using hx) (by simp) (by
    intro k v hk
    match k, hk with
    | 0, hk => simp at hk; subst hk; exact h0)
theorem sum2 (x y n : Int) (b c : Nat) (w : World) (hn : 0 ≤ n ∧ n ≤ 1099511627776) (hx : 0 ≤ x) (hy : 0 ≤ y) (h0 : w.cell? ⟨b, 0, none⟩ = some (.int .i64 x)) (h1 : w.cell? ⟨b, 1, none⟩ = some (.int .i64 y)) :
    Calls Try.prog 15 #[.int .i64 n, .slice (some ⟨b, 0, none⟩) 2 c] w fun e w' => e = .returned (.int .i64 (sumI n [x, y])) ∧ w = w' :=
  sum_any [x, y] n b c w hn (by simp; omega) (by simp) (by
    intro k v hk
    match k, hk with
    | 0, hk => simp at hk; subst hk; exact h0
    | 1, hk => simp at hk; subst hk; exact h1)

/-- Events, as far as their texts are looked at. -/
def EvTexts (news : List Value) (m : Nat) : Prop := ∀ i, i < m → ∃ s d : ByteArray, news[i * 7]? = some (.string s) ∧ news[i * 7 + 2]? = some (.string d)

theorem add_off (b o j : Nat) : (⟨b, o, none⟩ : Addr).add j = ⟨b, o + j, none⟩ := by unfold Addr.add; split <;> simp_all
theorem Reads.flat {w : World} {B size n : Nat} {A : Option Addr} {xs : List Value} (h : Reads w B size A n xs) (hn : 0 < n) (hs : 0 < size) :
    ∃ b o, A = some ⟨b, o, none⟩ ∧ b < B ∧ ∀ j u, xs[j]? = some u → w.cell? ⟨b, o + j, none⟩ = some u := by
  obtain ⟨⟨b, o, sp⟩, rfl, hb, hc⟩ := h.2 hn
  have hl : 0 < xs.length := by rw [h.1]; exact Nat.mul_pos hn hs
  have h0 := hc 0 xs[0] (List.getElem?_eq_getElem hl)
  have hsp : sp = none := by
    cases sp with
    | none => rfl
    | some q =>
      simp [Addr.add, World.cell?] at h0
      split at h0 <;> cases h0
  subst hsp
  exact ⟨b, o, rfl, hb, fun j u hu => by rw [← add_off]; exact hc j u hu⟩

set_option maxHeartbeats 1600000 in
theorem events_any (A : Option Addr) (m c : Nat) (news : List Value) (top : Int) (w : World) (ht : 0 ≤ top ∧ top ≤ 100000) (hr : Reads w w.heap.size 7 A m news) (ht2 : EvTexts news m) (hm : m ≤ 9223372036854775807) :
    Calls Try.prog 16 #[.slice A m c, .int .i64 top] w fun e w' => (∃ n : Int, e = .returned (.int .i64 n) ∧ 0 ≤ n ∧ n ≤ 1099511627776 ∧ (n ≤ 1099511627775 → (m : Int) ≤ n)) ∧ Below w.heap.size w w' := by
  have HT := Lib.hid ht2; clear ht2
  go_enter Try.func16, Try.ntmps16
  go_wp2_with (go_at_call 15; refine (sum1 (m : Int) 0 _ _ _ (by omega) (by omega) (by simp [go_sem])).mono ?_; rintro e w' ⟨rfl, rfl⟩)
  have hb0 := sumI_bd 0 [(m : Int)] (by unfold mostN; omega) (by simp)
  have hb1 : sumI 0 [(m : Int)] ≤ 1099511627775 → (m : Int) ≤ sumI 0 [(m : Int)] := by
    unfold sumI sumI mostN; split <;> omega
  generalize sumI 0 [(m : Int)] = n0 at *
  unfold mostN at hb0
  go_loopw [5, 6] (fun s i wr => ∃ (k : Nat) (q : Int), k ≤ m ∧ i = .int .i64 k ∧ s = .int .i64 q ∧ 0 ≤ q ∧ q ≤ 1099511627776 ∧ n0 ≤ q ∧ Below w.heap.size w wr) (fun _ i _ => m - (intOf i).toNat)
  case atStart => exact ⟨0, n0, Nat.zero_le _, rfl, rfl, hb0.1, hb0.2, Int.le_refl _, (Below.refl _ _).al _⟩
  case round =>
    obtain ⟨k, q, hk, rfl, rfl, hq0, hq1, hnq, hbl⟩ := hrel
    by_cases hlt : k < m
    · by_cases hqt : q ≤ top
      · go_wp2_with fail
        obtain ⟨b, o, rfl, hbb, hcell⟩ := hr.flat (by omega) (by omega)
        obtain ⟨s1, s2, t1, t2⟩ := HT.out k hlt
        have c1 := (hbl.cell (p := ⟨b, _, none⟩) hbb).trans (hcell _ _ t1)
        have c2 := (hbl.cell (p := ⟨b, _, none⟩) hbb).trans (hcell _ _ t2)
        rw [← Nat.add_assoc] at c2
        have hlt' : (k : Int) < m := by omega
        clear hcell
        refine wp_region_ht [0, 1, 2, 3, 4, 5, 6, 7, 8, 9, 10, 11, 12] [13, 14, 15] (by kernel_rfl) (by kernel_rfl) (fun _ _ d _ _ h => by cases d <;> exact h) ?_
        simp only [pick, List.filterMap_cons, List.filterMap_nil, List.getElem?_cons_zero, List.getElem?_cons_succ]
        repeat still_step
        refine wpStill_nil ?_
        go_wp2_with (go_at_call 15; refine (sum2 (s1.size : Int) (s2.size : Int) q _ _ _ (by omega) (by omega) (by omega) (by simp [go_sem]) (by simp [go_sem])).mono ?_; rintro e w' ⟨rfl, rfl⟩)
        have hbd := sumI_bd q [(s1.size : Int), (s2.size : Int)] (by unfold mostN; omega) (by simp)
        generalize sumI q [(s1.size : Int), (s2.size : Int)] = q2 at *
        unfold mostN at hbd
        go_round
        case rel => exact ⟨k + 1, q2, by omega, by go_num, rfl, by omega, by omega, by omega, (hbl.drew).al _⟩
        case measure => simp [intOf]; omega
      · go_wp2
        go_ret
        exact ⟨⟨q, rfl, hq0, hq1, fun h => by omega⟩, hbl⟩
    · go_wp2
      go_ret
      exact ⟨⟨q, rfl, hq0, hq1, fun h => by omega⟩, hbl⟩

/-- A step: its node and its feed. -/
structure Stp where
  node : Int
  fr : Int
  to : Int
  A : Option Addr
  m : Nat
  c : Nat
  news : List Value
  mark : St
  rv : Value

/-- The cells of a step; its events. -/
structure StpAt (w : World) (B b o : Nat) (s : Stp) : Prop where
  c0 : w.cell? ⟨b, o, none⟩ = some (.int .i64 s.node)
  c1 : w.cell? ⟨b, o + 1, none⟩ = some (.int .i64 s.fr)
  c2 : w.cell? ⟨b, o + 2, none⟩ = some (.int .i64 s.to)
  c3 : w.cell? ⟨b, o + 3, none⟩ = some (.slice s.A s.m s.c)
  c4 : w.cell? ⟨b, o + 4, none⟩ = some (.int .i64 s.mark.wall)
  c5 : w.cell? ⟨b, o + 5, none⟩ = some (.int .i64 s.mark.logic)
  c6 : w.cell? ⟨b, o + 6, none⟩ = some (.int .i64 s.mark.node)
  c7 : w.cell? ⟨b, o + 7, none⟩ = some s.rv
  bb : b < B
  rd : Reads w B 7 s.A s.m s.news
  tx : EvTexts s.news s.m
  o1 : ∀ u ∈ s.news, u.oneCell' = true
  mm : s.m ≤ 9223372036854775807

theorem StpAt.below {w w' : World} {B b o : Nat} {s : Stp} (h : StpAt w B b o s) (hb : Below B w w') : StpAt w' B b o s :=
  ⟨(hb.cell (p := ⟨b, _, none⟩) h.bb).trans h.c0, (hb.cell (p := ⟨b, _, none⟩) h.bb).trans h.c1, (hb.cell (p := ⟨b, _, none⟩) h.bb).trans h.c2, (hb.cell (p := ⟨b, _, none⟩) h.bb).trans h.c3,
   (hb.cell (p := ⟨b, _, none⟩) h.bb).trans h.c4, (hb.cell (p := ⟨b, _, none⟩) h.bb).trans h.c5, (hb.cell (p := ⟨b, _, none⟩) h.bb).trans h.c6, (hb.cell (p := ⟨b, _, none⟩) h.bb).trans h.c7,
   h.bb, h.rd.below hb, h.tx, h.o1, h.mm⟩

def sizes : List Stp → Nat
  | [] => 0
  | s :: l => s.m + sizes l
theorem sizes_snoc (l : List Stp) (s : Stp) : sizes (l ++ [s]) = sizes l + s.m := by
  induction l with
  | nil => simp [sizes]
  | cons x l ih => simp [sizes, ih]; omega

theorem sum2_small {q x y : Int} (hq : 0 ≤ q) (hy : 0 ≤ y) (h : sumI q [x, y] ≤ 10000) : x ≤ 10000 ∧ sumI q [x, y] = q + x + y := by
  unfold sumI at h ⊢
  split at h
  · unfold mostN at h; omega
  · rename_i h1
    rw [if_neg h1]
    unfold sumI at h ⊢
    split at h
    · unfold mostN at h; omega
    · rename_i h2
      rw [if_neg h2]
      unfold sumI at h ⊢
      omega

set_option maxHeartbeats 1600000 in
theorem small_any (ss : List Stp) (A : Option Addr) (c B : Nat) (w : World) (hB : B ≤ w.heap.size) (hl : ss.length ≤ 9223372036854775807)
    (hs : 0 < ss.length → ∃ b o, A = some ⟨b, o, none⟩ ∧ ∀ i s, ss[i]? = some s → StpAt w B b (o + i * 8) s) :
    Calls Try.prog 7 #[.slice A ss.length c] w fun e w' => (∃ r : Bool, e = .returned (.bool r) ∧ (r = true → ss.length ≤ 100 ∧ sizes ss ≤ 10000)) ∧ Below w.heap.size w w' := by
  have HS := Lib.hid hs; clear hs
  go_enter Try.func7, Try.ntmps7
  go_wp2
  go_loopw [3, 4] (fun s i wr => ∃ (k : Nat) (q : Int), k ≤ ss.length ∧ i = .int .i64 k ∧ s = .int .i64 q ∧ 0 ≤ q ∧ q ≤ 10000 ∧ (sizes (ss.take k) : Int) ≤ q ∧ Below w.heap.size w wr) (fun _ i _ => ss.length - (intOf i).toNat)
  case atStart => exact ⟨0, 0, Nat.zero_le _, rfl, rfl, by omega, by omega, by simp [sizes], Below.refl _ _⟩
  case round =>
    obtain ⟨k, q, hk, rfl, rfl, hq0, hq1, hsz, hbl⟩ := hrel
    by_cases hlt : k < ss.length
    · obtain ⟨b, o, rfl, hst⟩ := HS.out (by omega)
      have hS := (hst k ss[k] (List.getElem?_eq_getElem hlt)).below (hbl.mono hB)
      have c3 := hS.c3
      have hlt' : (k : Int) < ss.length := by omega
      have hbs := hbl.size
      clear hst
      go_wp2_with fail
      have C := events_any ss[k].A ss[k].m ss[k].c ss[k].news 10000 wr (by omega) (hS.rd.more (by omega)) hS.tx hS.mm
      refine C.mono ?_
      clear C
      rintro e w1 ⟨⟨n1, rfl, h0, h2, h3⟩, hb1⟩
      go_wp2_with (go_at_call 15; refine (sum2 n1 3 q _ _ _ (by omega) (by omega) (by omega) (by simp [go_sem]) (by simp [go_sem])).mono ?_; rintro e w' ⟨rfl, rfl⟩)
      · go_ret
        exact ⟨⟨false, rfl, by simp⟩, (hbl.tr hb1).al _⟩
      · have hle : sumI q [n1, 3] ≤ 10000 := by assumption
        obtain ⟨e1, e2⟩ := sum2_small hq0 (by omega) hle
        have hm := h3 (by omega)
        go_round
        case rel =>
          refine ⟨k + 1, sumI q [n1, 3], by omega, by go_num, rfl, by omega, hle, ?_, (hbl.tr hb1).al _⟩
          rw [take_snoc _ _ hlt, sizes_snoc]
          omega
        case measure => simp [intOf]; omega
    · have hk' : k = ss.length := by omega
      subst hk'
      rw [List.take_length] at hsz
      go_wp2
      go_ret
      refine ⟨⟨decide ((ss.length : Int) ≤ 100), rfl, fun h => ?_⟩, hbl⟩
      have := of_decide_eq_true h
      omega
end Go.Proofs.Ytbebofneobfngaa
