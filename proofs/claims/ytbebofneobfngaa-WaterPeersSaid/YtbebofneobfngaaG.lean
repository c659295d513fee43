/- What is known of all others, copied; the sizes of what comes in; the reference's order. -/
import Derived.Test.YtbebofneobfngaaF
namespace Go
open Go.RowKit
theorem World.ownsRow.ext_ {w w' : World} {base e size n : Nat} {v : Value} {xs : List Value} (h : w.ownsRow base e size v n xs) (hb : Below w.heap.size w w') : w'.ownsRow base e size v n xs := by
  refine ⟨h.1, ?_⟩
  rcases h.2 with hn | ⟨g, cap, cur, hv, hbg, hg, rest⟩
  · exact .inl hn
  · exact .inr ⟨g, cap, cur, hv, hbg, (hb.block g (Array.getElem?_eq_some_iff.1 hg).1).trans hg, rest⟩
end Go
namespace Go.Proofs.Ytbebofneobfngaa
open Go.RowKit
attribute [local go_sem] St.cells St.val Peer.cells headC

theorem own_reads {w : World} {base e size n c : Nat} {A : Option Addr} {xs : List Value} (h : w.ownsRow base e size (.slice A n c) n xs) : Reads w w.heap.size size A n xs := Reads.of_own h

set_option maxHeartbeats 400000 in
theorem clone_nil (n c : Nat) (w : World) : Calls Try.prog 20 #[.slice none n c] w fun e w' => (∃ A n c, e = .returned (.slice A n c)) ∧ Below w.heap.size w w' := by
  have hq := fun (w : World) => Lib.run_eql_slice_nil (P := Try.prog) w 31 41 none n c 0 0 Try.underlying31
  go_enter Try.func20, Try.ntmps20
  go_wp2
  go_ret
  exact ⟨⟨_, _, _, rfl⟩, Below.refl _ _⟩

set_option maxHeartbeats 400000 in
theorem clone_some (ad : Addr) (m c : Nat) (xs : List Value) (w : World) (hr : Reads w w.heap.size 7 (some ad) m xs) (h1 : ∀ u ∈ xs, u.oneCell' = true) (hm : m ≤ 1000000) :
    Calls Try.prog 20 #[.slice (some ad) m c] w fun e w' => (∃ A n c, e = .returned (.slice A n c)) ∧ Below w.heap.size w w' := by
  obtain ⟨i0, hi0, hz0, hz1, hz2⟩ := info_parts ev_info
  have hq := fun (w : World) => Lib.run_eql_slice_nil (P := Try.prog) w 31 41 (some ad) m c 0 0 Try.underlying31
  go_enter Try.func20, Try.ntmps20
  go_wp2_with (at_builtin; refine wpList_append_any _ rfl (.tmp 5) (.tmp 6) _ rfl w.heap.size 41 i0 _ 7 72 Try.underlying31 hi0 hz0 hz1 hz2 rfl (by omega) _ 0 [] rfl (World.ownsRow_made w #[] 0 (Nat.le_refl _) (by decide) rfl) w.heap.size (some ad) m c xs rfl (hr.alloc (Nat.le_refl _) _) h1 (by simp only [maxLen]; omega) (by omega) (by simp) ?_; intro v1 w1 hown1 hg1 hat1)
  obtain ⟨A1, c1, hv⟩ := own_form hown1
  subst hv
  go_ret
  exact ⟨⟨_, _, _, rfl⟩, ((Below.refl _ _).al _).grown hg1 (by simp) (fun k hk => by injection hk with hk; exact Nat.le_of_eq hk)⟩

/-- slices.Clone: a slice, in new memory. -/
theorem clone_any (A : Option Addr) (m c : Nat) (xs : List Value) (w : World) (hr : Reads w w.heap.size 7 A m xs) (h1 : ∀ u ∈ xs, u.oneCell' = true) (hm : m ≤ 1000000) :
    Calls Try.prog 20 #[.slice A m c] w fun e w' => (∃ A n c, e = .returned (.slice A n c)) ∧ Below w.heap.size w w' := by
  cases A with
  | none => exact clone_nil m c w
  | some ad => exact clone_some ad m c xs w hr h1 hm

theorem sl_info : (Try.prog.info? 31).map (fun i => (i.zero, i.size, i.bytes)) = some (some (.slice none 0 0), 1, 24) := by kernel_rfl

def othCnt (T : Tab) : Nat → Nat
  | 0 => 0
  | k + 1 => if othB T k then othCnt T k + 1 else othCnt T k
theorem othCnt_le (T : Tab) (k : Nat) : othCnt T k ≤ k := by
  induction k with
  | zero => exact Nat.le_refl _
  | succ k ih => unfold othCnt; split <;> omega

set_option maxHeartbeats 800000 in
theorem logs_any (base tb pb : Nat) (T : Tab) (w : World) (h : TabAt w base tb pb T) :
    Calls Try.prog 14 #[.pointer (some ⟨tb, 0, none⟩)] w fun e w' => (∃ A c, e = .returned (.slice A (othCnt T T.ps.length) c)) ∧ Below w.heap.size w w' := by
  obtain ⟨i0, hi0, hz0, hz1, hz2⟩ := info_parts sl_info

  have hh := h.head.cell
  have hl1 := h.head.lt
  have hl2 := h.row.lt
  have hfew := h.few
  go_enter Try.func14, Try.ntmps14
  go_wp2
  go_loopw [2, 3, 11] (fun v _ i wr => ∃ k : Nat, k ≤ T.ps.length ∧ i = .int .i64 k ∧ Below w.heap.size w wr ∧ ∃ xs, wr.ownsRow w.heap.size 31 1 v (othCnt T k) xs) (fun _ _ i _ => T.ps.length - (intOf i).toNat)
  case atStart => exact ⟨0, Nat.zero_le _, rfl, Below.refl _ _, [], World.ownsRow_nil _ _ _ _⟩
  case round =>
    obtain ⟨k, hk, rfl, hbl, xs, hown⟩ := hrel
    obtain ⟨A0, e0, hv0⟩ := own_form hown
    subst hv0
    have hhr := (h.head.ext hbl).cell
    by_cases hlt : k < T.ps.length
    · have hp : T.ps[k]? = some T.ps[k] := List.getElem?_eq_getElem hlt
      obtain ⟨c0, c1, c2, c3⟩ := (h.ext hbl).cells hp
      have hlt' : (k : Int) < T.ps.length := by omega
      cases ho : othB T k with
      | true =>
        have ho' := Lib.hid ho; clear ho
        obtain ⟨_, ys, hy, hy1⟩ := h.evs k _ hp
        have hn := ((h.ext hbl).evs k _ hp).1
        obtain ⟨A', c', hev⟩ := own_form hy
        rw [hev] at hy c0
        have hrd := Lib.hid (((Reads.of_own hy).below hbl).more hbl.size)
        clear hev
        have hsz := hbl.size
        go_wp2_with (go_at_call 17; refine (other_any tb T.self T.ps.length T.ps.length _ k _ (hhr 0) (hhr 1)).mono ?_; rintro e w' ⟨rfl, rfl⟩; rw [show otherB T.self T.ps.length (k : Int) = true from ho'.out])
        have C := clone_any A' T.ps[k].n c' ys wr hrd.out hy1 hn
        refine C.mono ?_
        clear C
        rintro e w1 ⟨⟨A2, n2, c2, rfl⟩, hb1⟩
        have hown1 := hown.ext_ hb1
        have hsz1 := hb1.size
        have hcnt := othCnt_le T k
        go_wp2_with (at_builtin; refine wpList_append_own _ rfl (.tmp 17) (.tmp 27) _ rfl w.heap.size 31 i0 _ 1 24 Try.underlying43 hi0 hz0 hz1 hz2 rfl (by omega) _ _ xs rfl (hown1.alloc _) ⟨w1.heap.size, 0, none⟩ 1 1 [.slice A2 n2 c2] rfl rfl (World.news_of_block (heap_alloc_new w1 _)) (by simp [Value.oneCell']) (by simp only [maxLen]; omega) (by omega) (by simp; omega) ?_; intro v1 w2 hown2 hg2 _)
        go_round
        case rel =>
          refine ⟨k + 1, by omega, by go_num, ?_, xs ++ [.slice A2 n2 c2], ?_⟩
          · exact ((hbl.tr hb1).al (.cells #[.slice A2 n2 c2] 31)).grown hg2 (by simp; omega) (fun g hg => (hown1.lt g hg).1)
          · simp only [othCnt, ho'.out, if_true]
            exact hown2
        case measure => simp [intOf]; omega
      | false =>
        have ho' := Lib.hid ho; clear ho
        go_wp2_with (go_at_call 17; refine (other_any tb T.self T.ps.length T.ps.length _ k _ (hhr 0) (hhr 1)).mono ?_; rintro e w' ⟨rfl, rfl⟩; rw [show otherB T.self T.ps.length (k : Int) = false from ho'.out])
        go_round
        case rel =>
          refine ⟨k + 1, by omega, by go_num, hbl, xs, ?_⟩
          simp only [othCnt, ho'.out, Bool.false_eq_true, if_false]
          exact hown
        case measure => simp [intOf]; omega
    · have hk' : k = T.ps.length := by omega
      subst hk'
      go_wp2
      go_ret
      exact ⟨⟨_, _, rfl⟩, hbl⟩
end Go.Proofs.Ytbebofneobfngaa
