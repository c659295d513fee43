/- The table as the walks see it; the mark of all. -/
import Derived.Test.YtbebofneobfngaaB
import Derived.Test.YtbebofneobfngaaC
import Derived.StillTailTactics
namespace Go.Proofs.Ytbebofneobfngaa
open Go.RowKit
attribute [local go_sem] St.cells St.val


theorem StAt.at2 {w : World} {b : Nat} {x y : St} (h0 : StAt w b 0 x) (h1 : StAt w b 3 y) : ∀ k z, [x, y][k]? = some z → StAt w b (k * 3) z := by
  intro k z hk
  match k, hk with
  | 0, hk => simp at hk; subst hk; exact h0
  | 1, hk => simp at hk; subst hk; exact h1

def minS (a b : St) : St := mostI (-1) [a, b]
def maxS (a b : St) : St := mostI 1 [a, b]

theorem most2_any (way : Int) (hw : way = 1 ∨ way = -1) (x y : St) (b c : Nat) (w : World) (hb : b < w.heap.size) (h0 : StAt w b 0 x) (h1 : StAt w b 3 y) :
    Calls Try.prog 21 #[.slice (some ⟨b, 0, none⟩) 2 c, .int .i64 way] w fun e w' => e = .returned (mostI way [x, y]).val ∧ Below w.heap.size w w' :=
  most_any way hw [x, y] b c w (by simp) hb (h0.at2 h1)

set_option maxHeartbeats 400000 in
theorem min_any (x y : St) (b c : Nat) (w : World) (hb : b < w.heap.size) (h0 : StAt w b 0 x) (h1 : StAt w b 3 y) :
    Calls Try.prog 18 #[.slice (some ⟨b, 0, none⟩) 2 c] w fun e w' => e = .returned (minS x y).val ∧ Below w.heap.size w w' := by
  have H0 := h0.below ((Below.refl w.heap.size w).al (.cells #[.int .i64 0, .int .i64 0, .int .i64 0] 24)) hb
  have H1 := h1.below ((Below.refl w.heap.size w).al (.cells #[.int .i64 0, .int .i64 0, .int .i64 0] 24)) hb
  have HH := Lib.hid (And.intro H0 H1); clear H0 H1 h0 h1
  go_enter Try.func18, Try.ntmps18
  go_wp2_with fail
  have C := most2_any (-1) (Or.inr rfl) x y b c _ (by simp; omega) HH.out.1 HH.out.2
  refine C.mono ?_
  clear C
  rintro e w' ⟨rfl, hbb⟩
  have hB' := (Blk.new w 24 (St.cells ⟨0, 0, 0⟩)).ext hbb
  have t0 := hB'.cell
  have t1 := hB'.frozen
  go_wp2
  exact bodyPost_blk (t := 24) (cs := (minS x y).cells) rfl (Blk.to (by repeat (with_reducible first | exact hB' | apply Blk.alloc | apply Blk.set_)) (by rfl)) rfl Try.underlying24 rfl (by kernel_rfl) rfl
    ⟨rfl, by repeat (with_reducible first | exact ((Below.refl _ _).al _).tr hbb | refine Below.al ?_ _ | refine Below.drew ?_ | refine Below.st ?_ (Nat.le_refl _) _ | apply Below.st1)⟩

set_option maxHeartbeats 400000 in
theorem max_any (x y : St) (b c : Nat) (w : World) (hb : b < w.heap.size) (h0 : StAt w b 0 x) (h1 : StAt w b 3 y) :
    Calls Try.prog 19 #[.slice (some ⟨b, 0, none⟩) 2 c] w fun e w' => e = .returned (maxS x y).val ∧ Below w.heap.size w w' := by
  have H0 := h0.below ((Below.refl w.heap.size w).al (.cells #[.int .i64 0, .int .i64 0, .int .i64 0] 24)) hb
  have H1 := h1.below ((Below.refl w.heap.size w).al (.cells #[.int .i64 0, .int .i64 0, .int .i64 0] 24)) hb
  have HH := Lib.hid (And.intro H0 H1); clear H0 H1 h0 h1
  go_enter Try.func19, Try.ntmps19
  go_wp2_with fail
  have C := most2_any 1 (Or.inl rfl) x y b c _ (by simp; omega) HH.out.1 HH.out.2
  refine C.mono ?_
  clear C
  rintro e w' ⟨rfl, hbb⟩
  have hB' := (Blk.new w 24 (St.cells ⟨0, 0, 0⟩)).ext hbb
  have t0 := hB'.cell
  have t1 := hB'.frozen
  go_wp2
  exact bodyPost_blk (t := 24) (cs := (maxS x y).cells) rfl (Blk.to (by repeat (with_reducible first | exact hB' | apply Blk.alloc | apply Blk.set_)) (by rfl)) rfl Try.underlying24 rfl (by kernel_rfl) rfl
    ⟨rfl, by repeat (with_reducible first | exact ((Below.refl _ _).al _).tr hbb | refine Below.al ?_ _ | refine Below.drew ?_ | refine Below.st ?_ (Nat.le_refl _) _ | apply Below.st1)⟩

/-- What is known of one. -/
structure Peer where
  ev : Value
  n : Nat
  mark : St
def Peer.cells (p : Peer) : List Value := [p.ev, .int .i64 p.mark.wall, .int .i64 p.mark.logic, .int .i64 p.mark.node]
attribute [go_sem] Peer.cells
structure Tab where
  self : Int
  ps : List Peer

structure TabAt (w : World) (base tb pb : Nat) (T : Tab) : Prop where
  head : Blk w tb 52 [.int .i64 T.self, .slice (some ⟨pb, 0, none⟩) T.ps.length T.ps.length]
  row : Blk w pb 56 (T.ps.flatMap Peer.cells)
  b1 : base ≤ tb
  b2 : base ≤ pb
  few : T.ps.length ≤ 100
  evs : ∀ (i : Nat) (p : Peer), T.ps[i]? = some p → p.n ≤ 1000000 ∧ ∃ xs, w.ownsRow base 41 7 p.ev p.n xs ∧ ∀ u ∈ xs, u.oneCell' = true
  apart : ∀ (i j : Nat) (p q : Peer), i ≠ j → T.ps[i]? = some p → T.ps[j]? = some q → p.ev.ownBlock = none ∨ p.ev.ownBlock ≠ q.ev.ownBlock

theorem flat4 (l : List Peer) (k : Nat) (p : Peer) (h : l[k]? = some p) (j : Nat) (hj : j < 4) : (l.flatMap Peer.cells)[k * 4 + j]? = p.cells[j]? := by
  induction l generalizing k with
  | nil => simp at h
  | cons q l ih =>
    rw [List.flatMap_cons]
    cases k with
    | zero =>
      simp at h; subst h
      rw [List.getElem?_append_left (by simp [Peer.cells]; omega)]; simp
    | succ k =>
      rw [List.getElem?_append_right (by simp [Peer.cells]; omega)]
      simp only [List.getElem?_cons_succ] at h
      rw [← ih k h]
      congr 1
      simp [Peer.cells]; omega

theorem TabAt.cells {w : World} {base tb pb : Nat} {T : Tab} (h : TabAt w base tb pb T) {k : Nat} {p : Peer} (hk : T.ps[k]? = some p) :
    w.cell? ⟨pb, k * 4, none⟩ = some p.ev ∧ StAt w pb (k * 4 + 1) p.mark := by
  have f := fun j hj => (h.row.cell (k * 4 + j)).trans (flat4 T.ps k p hk j hj)
  exact ⟨f 0 (by omega), f 1 (by omega), f 2 (by omega), f 3 (by omega)⟩

theorem TabAt.ext {w w' : World} {base tb pb : Nat} {T : Tab} (h : TabAt w base tb pb T) (hb : Below w.heap.size w w') : TabAt w' base tb pb T :=
  ⟨h.head.ext hb, h.row.ext hb, h.b1, h.b2, h.few, fun i p hp => by
    obtain ⟨h0, xs, hx, h1⟩ := h.evs i p hp
    refine ⟨h0, xs, ⟨hx.1, ?_⟩, h1⟩
    rcases hx.2 with hn | ⟨g, cap, cur, hv, hbg, hg, rest⟩
    · exact .inl hn
    · exact .inr ⟨g, cap, cur, hv, hbg, (hb.block g (Array.getElem?_eq_some_iff.1 hg).1).trans hg, rest⟩, h.apart⟩

theorem TabAt.mono {w : World} {base base' tb pb : Nat} {T : Tab} (h : TabAt w base tb pb T) (hb : base' ≤ base) : TabAt w base' tb pb T :=
  ⟨h.head, h.row, Nat.le_trans hb h.b1, Nat.le_trans hb h.b2, h.few, fun i p hp => by
    obtain ⟨h0, xs, hx, h1⟩ := h.evs i p hp
    refine ⟨h0, xs, ⟨hx.1, ?_⟩, h1⟩
    rcases hx.2 with hn | ⟨g, cap, cur, hv, hbg, hg, rest⟩
    · exact .inl hn
    · exact .inr ⟨g, cap, cur, hv, Nat.le_trans hb hbg, hg, rest⟩, h.apart⟩

def othB (T : Tab) (k : Nat) : Bool := otherB T.self T.ps.length k

/-- The least mark of the first k, and one's own. -/
def waterK (T : Tab) (own : St) : Nat → St
  | 0 => own
  | k + 1 => match T.ps[k]? with
    | some p => if othB T k then minS (waterK T own k) p.mark else waterK T own k
    | none => waterK T own k
def waterT (T : Tab) (own : St) : St := waterK T own T.ps.length

set_option maxHeartbeats 800000 in
theorem water_any (base tb pb : Nat) (T : Tab) (own : St) (w : World) (h : TabAt w base tb pb T) (hs : (T.self == 0) = false) :
    Calls Try.prog 10 #[.pointer (some ⟨tb, 0, none⟩), own.val] w fun e w' => e = .returned (waterT T own).val ∧ Below w.heap.size w w' := by
  have hh := h.head.cell
  have hl1 := h.head.lt
  have hl2 := h.row.lt
  have hfew := h.few
  unfold St.val
  go_enter Try.func10, Try.ntmps10
  go_wp2
  go_loopw [5, 21] (fun _ i wr => ∃ k : Nat, k ≤ T.ps.length ∧ i = .int .i64 k ∧ Below w.heap.size w wr ∧ Blk wr w.heap.size 24 (waterK T own k).cells ∧ Blk wr (w.heap.size + 1) 24 (St.cells ⟨0, 0, 0⟩)) (fun _ i _ => T.ps.length - (intOf i).toNat)
  case atStart =>
    refine ⟨0, Nat.zero_le _, rfl, ((Below.refl _ _).al _).al _, (Blk.new _ _ _).alloc _, Blk.new1 _ _ _ _⟩
  case round =>
    obtain ⟨k, hk, rfl, hbl, hB, hX⟩ := hrel
    have hxc := hX.cell
    have hxf := hX.frozen
    have hob := hB.cell
    have hof := hB.frozen
    have hhr := (h.head.ext hbl).cell
    by_cases hlt : k < T.ps.length
    · have hp : T.ps[k]? = some T.ps[k] := List.getElem?_eq_getElem hlt
      obtain ⟨c0, c1, c2, c3⟩ := (h.ext hbl).cells hp
      have hlt' : (k : Int) < T.ps.length := by omega
      cases ho : othB T k with
      | true =>
        have ho' := Lib.hid ho; clear ho
        go_wp2_with (go_at_call 17; refine (other_any tb T.self T.ps.length T.ps.length _ k _ (hhr 0) (hhr 1)).mono ?_; rintro e w' ⟨rfl, rfl⟩; rw [show otherB T.self T.ps.length (k : Int) = true from ho'.out])
        go_still_tail 9, (by kernel_rfl)
        change wpList _ _ _ _ _ wr.drew
        go_wp2_with fail
        refine (min_any (waterK T own k) T.ps[k].mark _ _ _ ?_ ?_ ?_).mono ?_
        · simp
        · refine ⟨?_, ?_, ?_⟩ <;> simp [go_sem]
        · refine ⟨?_, ?_, ?_⟩ <;> simp [go_sem]
        rintro e w' ⟨rfl, hbb⟩
        have hB' := ((hB.alloc _).drew).ext hbb
        have hX' := ((hX.alloc _).drew).ext hbb
        clear hob hof hxc hxf
        have hob := hB'.cell
        have hof := hB'.frozen
        go_wp2
        go_round
        case rel =>
          refine ⟨k + 1, by omega, by go_num, ?_, ?_, ?_⟩
          · repeat (with_reducible first | exact (hbl.al _).drew.tr hbb | refine Below.al ?_ _ | refine Below.drew ?_ | refine Below.st ?_ (Nat.le_refl _) _ | apply Below.st1)
          · exact Blk.to (by repeat (with_reducible first | exact hB' | apply Blk.alloc | apply Blk.set_)) (by simp only [waterK, hp, ho'.out, if_true]; rfl)
          · exact ((hX'.far (by simp) _).far (by simp) _).far (by simp) _
        case measure => simp [intOf]; omega
      | false =>
        have ho' := Lib.hid ho; clear ho
        go_wp2_with (go_at_call 17; refine (other_any tb T.self T.ps.length T.ps.length _ k _ (hhr 0) (hhr 1)).mono ?_; rintro e w' ⟨rfl, rfl⟩; rw [show otherB T.self T.ps.length (k : Int) = false from ho'.out])
        go_round
        case rel =>
          refine ⟨k + 1, by omega, by go_num, hbl, hB.to ?_, hX⟩
          simp only [waterK, hp, ho'.out, Bool.false_eq_true, if_false]
        case measure => simp [intOf]; omega
    · go_wp2
      exact bodyPost_blk (t := 24) (cs := (waterT T own).cells) rfl (Blk.to (by repeat (with_reducible first | exact hX | apply Blk.alloc | apply Blk.set_)) (by rw [show k = T.ps.length from by omega]; rfl)) rfl Try.underlying24 rfl (by kernel_rfl) rfl
        ⟨rfl, by repeat (with_reducible first | exact hbl | refine Below.al ?_ _ | refine Below.drew ?_ | refine Below.st ?_ (Nat.le_refl _) _ | apply Below.st1)⟩

set_option maxHeartbeats 400000 in
theorem water_nil (own : St) (w : World) :
    Calls Try.prog 10 #[.pointer none, own.val] w fun e w' => e = .returned (St.val ⟨0, 0, 0⟩) ∧ Below w.heap.size w w' := by
  go_enter Try.func10, Try.ntmps10
  go_wp2
  exact bodyPost_blk (t := 24) (cs := St.cells ⟨0, 0, 0⟩) rfl (Blk.new1 _ _ _ _) rfl Try.underlying24 rfl (by kernel_rfl) rfl
    ⟨rfl, by repeat (with_reducible first | exact Below.refl _ _ | refine Below.al ?_ _ | refine Below.drew ?_ | refine Below.st ?_ (Nat.le_refl _) _ | apply Below.st1)⟩

/-! ### A new one -/
def tab0 (self : Int) (nodes : Nat) : Tab := ⟨self, List.replicate (nodes + 1) ⟨.slice none 0 0, 0, ⟨0, 0, 0⟩⟩⟩
def newB (self nodes : Int) : Bool := decide (1 ≤ nodes) && (decide (nodes ≤ 5) && (decide (1 ≤ self) && decide (self ≤ nodes)))

set_option maxHeartbeats 400000 in
theorem new_no (self nodes : Int) (w : World) (h : newB self nodes = false) :
    Calls Try.prog 9 #[.int .i64 self, .int .i64 nodes] w fun e w' => e = .returned (.pointer none) ∧ w = w' := by
  by_cases a1 : nodes < 1
  · go_enter Try.func9, Try.ntmps9
    go_wp2
    go_ret
    exact ⟨rfl, rfl⟩
  by_cases a2 : 5 < nodes
  · go_enter Try.func9, Try.ntmps9
    go_wp2
    go_ret
    exact ⟨rfl, rfl⟩
  by_cases a3 : self < 1
  · go_enter Try.func9, Try.ntmps9
    go_wp2
    go_ret
    exact ⟨rfl, rfl⟩
  by_cases a4 : nodes < self
  · go_enter Try.func9, Try.ntmps9
    go_wp2
    go_ret
    exact ⟨rfl, rfl⟩
  exfalso
  have : newB self nodes = true := by simp [newB]; omega
  simp [this] at h

theorem mk2 (w : World) : (Instr.makeSlice 50 (.int .i64 2) (.int .i64 2)).run Try.prog w = .ok (.slice (some ⟨w.heap.size, 0, none⟩) 2 2) (w.alloc (.cells (((List.replicate 2 (⟨.slice none 0 0, 0, ⟨0, 0, 0⟩⟩ : Peer)).flatMap Peer.cells).toArray) 56)) := by kernel_rfl
theorem mk3 (w : World) : (Instr.makeSlice 50 (.int .i64 3) (.int .i64 3)).run Try.prog w = .ok (.slice (some ⟨w.heap.size, 0, none⟩) 3 3) (w.alloc (.cells (((List.replicate 3 (⟨.slice none 0 0, 0, ⟨0, 0, 0⟩⟩ : Peer)).flatMap Peer.cells).toArray) 56)) := by kernel_rfl
theorem mk4 (w : World) : (Instr.makeSlice 50 (.int .i64 4) (.int .i64 4)).run Try.prog w = .ok (.slice (some ⟨w.heap.size, 0, none⟩) 4 4) (w.alloc (.cells (((List.replicate 4 (⟨.slice none 0 0, 0, ⟨0, 0, 0⟩⟩ : Peer)).flatMap Peer.cells).toArray) 56)) := by kernel_rfl
theorem mk5 (w : World) : (Instr.makeSlice 50 (.int .i64 5) (.int .i64 5)).run Try.prog w = .ok (.slice (some ⟨w.heap.size, 0, none⟩) 5 5) (w.alloc (.cells (((List.replicate 5 (⟨.slice none 0 0, 0, ⟨0, 0, 0⟩⟩ : Peer)).flatMap Peer.cells).toArray) 56)) := by kernel_rfl
theorem mk6 (w : World) : (Instr.makeSlice 50 (.int .i64 6) (.int .i64 6)).run Try.prog w = .ok (.slice (some ⟨w.heap.size, 0, none⟩) 6 6) (w.alloc (.cells (((List.replicate 6 (⟨.slice none 0 0, 0, ⟨0, 0, 0⟩⟩ : Peer)).flatMap Peer.cells).toArray) 56)) := by kernel_rfl

theorem tab0_at (w : World) (self : Int) (n : Nat) (hn : n ≤ 5) : TabAt ((w.alloc (.cells (((List.replicate (n + 1) (⟨.slice none 0 0, 0, ⟨0, 0, 0⟩⟩ : Peer)).flatMap Peer.cells).toArray) 56)).alloc (.cells #[.int .i64 self, .slice (some ⟨w.heap.size, 0, none⟩) (n + 1) (n + 1)] 52)) w.heap.size (w.heap.size + 1) w.heap.size (tab0 self n) := by
  refine ⟨?_, (Blk.new w _ _).alloc _, by omega, by omega, by simp [tab0]; omega, ?_, ?_⟩
  · have h := Blk.new1 w (.cells (((List.replicate (n + 1) (⟨.slice none 0 0, 0, ⟨0, 0, 0⟩⟩ : Peer)).flatMap Peer.cells).toArray) 56) 52 [.int .i64 self, .slice (some ⟨w.heap.size, 0, none⟩) (n + 1) (n + 1)]
    simpa [tab0] using h
  · intro i p hp
    have hp' : p = ⟨.slice none 0 0, 0, ⟨0, 0, 0⟩⟩ := by
      have := List.mem_of_getElem? hp
      simp only [tab0] at this
      exact List.eq_of_mem_replicate this
    subst hp'
    exact ⟨by simp, [], World.ownsRow_nil _ _ _ _, by simp⟩
  · intro i j p q _ hp _
    have hp' : p = ⟨.slice none 0 0, 0, ⟨0, 0, 0⟩⟩ := by
      have := List.mem_of_getElem? hp
      simp only [tab0] at this
      exact List.eq_of_mem_replicate this
    subst hp'
    exact .inl rfl

set_option maxHeartbeats 400000 in
theorem new1 (self : Int) (w : World) (a3 : 1 ≤ self) (a4 : self ≤ 1) :
    Calls Try.prog 9 #[.int .i64 self, .int .i64 1] w fun e w' => e = .returned (.pointer (some ⟨w.heap.size + 1, 0, none⟩)) ∧ TabAt w' w.heap.size (w.heap.size + 1) w.heap.size (tab0 self 1) ∧ Below w.heap.size w w' := by
  have hT := Lib.hid (tab0_at w self 1 (by omega))
  have e1 : ¬ self < 1 := by omega
  have e2 : ¬ 1 < self := by omega
  have hm := mk2
  go_enter Try.func9, Try.ntmps9
  go_wp2
  go_ret
  exact ⟨rfl, hT.out, ((Below.refl _ _).al _).al _⟩
set_option maxHeartbeats 400000 in
theorem new2 (self : Int) (w : World) (a3 : 1 ≤ self) (a4 : self ≤ 2) :
    Calls Try.prog 9 #[.int .i64 self, .int .i64 2] w fun e w' => e = .returned (.pointer (some ⟨w.heap.size + 1, 0, none⟩)) ∧ TabAt w' w.heap.size (w.heap.size + 1) w.heap.size (tab0 self 2) ∧ Below w.heap.size w w' := by
  have hT := Lib.hid (tab0_at w self 2 (by omega))
  have e1 : ¬ self < 1 := by omega
  have e2 : ¬ 2 < self := by omega
  have hm := mk3
  go_enter Try.func9, Try.ntmps9
  go_wp2
  go_ret
  exact ⟨rfl, hT.out, ((Below.refl _ _).al _).al _⟩
set_option maxHeartbeats 400000 in
theorem new3 (self : Int) (w : World) (a3 : 1 ≤ self) (a4 : self ≤ 3) :
    Calls Try.prog 9 #[.int .i64 self, .int .i64 3] w fun e w' => e = .returned (.pointer (some ⟨w.heap.size + 1, 0, none⟩)) ∧ TabAt w' w.heap.size (w.heap.size + 1) w.heap.size (tab0 self 3) ∧ Below w.heap.size w w' := by
  have hT := Lib.hid (tab0_at w self 3 (by omega))
  have e1 : ¬ self < 1 := by omega
  have e2 : ¬ 3 < self := by omega
  have hm := mk4
  go_enter Try.func9, Try.ntmps9
  go_wp2
  go_ret
  exact ⟨rfl, hT.out, ((Below.refl _ _).al _).al _⟩
set_option maxHeartbeats 400000 in
theorem new4 (self : Int) (w : World) (a3 : 1 ≤ self) (a4 : self ≤ 4) :
    Calls Try.prog 9 #[.int .i64 self, .int .i64 4] w fun e w' => e = .returned (.pointer (some ⟨w.heap.size + 1, 0, none⟩)) ∧ TabAt w' w.heap.size (w.heap.size + 1) w.heap.size (tab0 self 4) ∧ Below w.heap.size w w' := by
  have hT := Lib.hid (tab0_at w self 4 (by omega))
  have e1 : ¬ self < 1 := by omega
  have e2 : ¬ 4 < self := by omega
  have hm := mk5
  go_enter Try.func9, Try.ntmps9
  go_wp2
  go_ret
  exact ⟨rfl, hT.out, ((Below.refl _ _).al _).al _⟩
set_option maxHeartbeats 400000 in
theorem new5 (self : Int) (w : World) (a3 : 1 ≤ self) (a4 : self ≤ 5) :
    Calls Try.prog 9 #[.int .i64 self, .int .i64 5] w fun e w' => e = .returned (.pointer (some ⟨w.heap.size + 1, 0, none⟩)) ∧ TabAt w' w.heap.size (w.heap.size + 1) w.heap.size (tab0 self 5) ∧ Below w.heap.size w w' := by
  have hT := Lib.hid (tab0_at w self 5 (by omega))
  have e1 : ¬ self < 1 := by omega
  have e2 : ¬ 5 < self := by omega
  have hm := mk6
  go_enter Try.func9, Try.ntmps9
  go_wp2
  go_ret
  exact ⟨rfl, hT.out, ((Below.refl _ _).al _).al _⟩
theorem new_yes (self : Int) (nodes : Nat) (w : World) (h : newB self nodes = true) :
    Calls Try.prog 9 #[.int .i64 self, .int .i64 nodes] w fun e w' => e = .returned (.pointer (some ⟨w.heap.size + 1, 0, none⟩)) ∧ TabAt w' w.heap.size (w.heap.size + 1) w.heap.size (tab0 self nodes) ∧ Below w.heap.size w w' := by
  have h1 : (1 : Int) ≤ nodes ∧ (nodes : Int) ≤ 5 ∧ 1 ≤ self ∧ self ≤ nodes := by simp [newB] at h; omega
  obtain ⟨a1, a2, a3, a4⟩ := h1
  have : nodes = 1 ∨ nodes = 2 ∨ nodes = 3 ∨ nodes = 4 ∨ nodes = 5 := by omega
  rcases this with rfl | rfl | rfl | rfl | rfl
  · exact new1 self w a3 a4
  · exact new2 self w a3 a4
  · exact new3 self w a3 a4
  · exact new4 self w a3 a4
  · exact new5 self w a3 a4
end Go.Proofs.Ytbebofneobfngaa
