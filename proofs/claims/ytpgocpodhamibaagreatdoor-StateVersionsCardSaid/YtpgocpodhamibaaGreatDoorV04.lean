/- StateVersions: the law's walk. Arguments opened: what is read as a datum is one of ours. -/
import Derived.Test.YtpgocpodhamibaaGreatDoorV03
import Derived.Test.YtpgocpodhamibaaGreatDoorK11
import Derived.Test.YtpgocpodhamibaaGreatDoorL01
import Derived.Test.YtpgocpodhamibaaGreatDoorL02
import Derived.Test.YtpgocpodhamibaaGreatDoorK01
import Derived.Test.YtpgocpodhamibaaGreatDoorProg
import Derived.Deep.Slices
import Derived.ChangeSame
import Derived.ChangeArms
namespace Go.Proofs.YtpgocpodhamibaaGreatDoor
open Go.RowKit

def lenS (l : List Stream) : Nat := (l.map fun x => x.events.length).sum
theorem lenS_take {l : List Stream} {k : Nat} (h : k < l.length) : lenS (l.take (k + 1)) = lenS (l.take k) + l[k].events.length := by
  rw [take_snoc l k h]; unfold lenS; rw [List.map_append, List.sum_append]; simp
theorem lenS_tk (l : List Stream) (k : Nat) : lenS (l.take k) ≤ lenS l := by
  have h : lenS l = lenS (l.take k) + lenS (l.drop k) := by
    conv => lhs; rw [← List.take_append_drop k l]
    unfold lenS; rw [List.map_append, List.sum_append]
  omega
/-- What a walk through records looks at. -/
structure RcB (w : World) (l : List Rec) (A : Option Addr) (W : World) : Prop where
  r : RecR.Row W (fun k => k < w.heap.size) A l
  tabs : Tabs W
  below : Below w.heap.size w W
section
variable {w : World} {l : List Rec} {A : Option Addr} {W W' : World}
theorem RcB.ext (h : RcB w l A W) (hb : Below W.heap.size W W') : RcB w l A W' := ⟨h.r.ext hb, h.tabs.below hb, h.below.tr hb⟩
theorem RcB.only {g : Nat} (h : RcB w l A W) (hO : Only (· = g) W W') (hg : w.heap.size ≤ g) (h2 : 2 ≤ g) : RcB w l A W' :=
  ⟨h.r.same (Same.of_only hO fun k hk e => by have e' : k = g := e; omega) hO.size,
   h.tabs.only hO (by intro e; have e' : 0 = g := e; omega) (by intro e; have e' : 1 = g := e; omega), h.below.trans (hO.low (fun k e => by have e' : k = g := e; omega) (by have := h.below.size; omega))⟩
end
theorem newS_log {s : St} (h : newS 1 1 = some s) : LogOk s ∧ s.log = [] := by
  unfold newS at h
  rw [if_neg (by decide)] at h
  injection h with h
  subst h
  exact ⟨fun n => by simp [evT_nil], rfl⟩

theorem take_len (T : Tab) (r : Range) : (takeT T r).length ≤ T.length := by
  unfold takeT
  rw [List.length_map]
  have h1 : (someT T r).length ≤ (sortS (T.map (·.1))).length := List.length_filter_le _ _
  rw [sortS_len, List.length_map] at h1
  exact h1
set_option maxRecDepth 20000 in
set_option maxHeartbeats 12800000 in
theorem versions_law (l : List Rec) (A : Option Addr) (c : Nat) (w : World) (hr : RecR.Row w (fun k => k < w.heap.size) A l) (hc : l.length ≤ c ∧ c ≤ 9223372036854775807) (hT : Tabs w) (h2 : 2 ≤ w.heap.size) :
    Calls Tryz.prog 5 #[.slice A l.length c] w fun e w' => e = .returned (.bool true) ∧ Below w.heap.size w w' := by
  have CA := Lib.hid (fun W (hW : Below w.heap.size w W) => awake_any W (hT.below hW) (by have := hW.size; omega))
  have HR := Lib.hid (show RcB w l A w from ⟨hr, hT, Below.refl _ _⟩)
  have C1 := small_any l A c _ w hr hc
  clear hr hT
  go_enter Tryz.func5, Tryz.ntmps5
  go_wp2_with fail
  refine C1.mono ?_
  clear C1
  rintro e w0 ⟨⟨sb, rfl, hsb⟩, hb0⟩
  have H0 := Lib.hid (HR.out.ext hb0)
  clear hb0
  cases sb
  · clear hsb
    go_wp2_with fail
    refine (CA.out w0 H0.out.below).mono ?_
    rintro e w1 ⟨rfl, hb1⟩
    go_wp2_with fail
    go_ret
    exact ⟨rfl, H0.out.below.tr hb1⟩
  have HSM := Lib.hid (hsb rfl)
  have hl80 : (l.length : Int) ≤ 80 := by have := HSM.out.1; omega
  have hz0 := H0.out.below.size
  clear hsb HR hc
  have C2 := newState_any 1 1 w0 (i64_small 1 (by omega)) (i64_small 1 (by omega))
  unfold GotState at C2
  have HNW := Lib.hid (show newS 1 1 = some awS from by kernel_rfl)
  rw [HNW.out] at C2
  go_wp2_with fail
  refine C2.mono ?_
  clear C2
  rintro e w1 ⟨⟨g, rfl, hg, hst, _⟩, hb1⟩
  have hz1 := hb1.size
  have hgl := hst.lt
  have H1 := Lib.hid (And.intro (hst.mono (Q := fun k => w.heap.size ≤ k ∧ k ≠ g) (fun k hk => ⟨by have := hk.1; omega, hk.2⟩)) (H0.out.ext hb1))
  clear hst hb1
  unfold ptrV
  go_wp2_with fail
  go_loopw [5] (fun iv wr => ∃ (i : Nat) (s : St), i ≤ l.length ∧ iv = .int .i64 i ∧ StAt wr (fun k => w.heap.size ≤ k ∧ k ≠ g) g s ∧ Inv s (costL (l.take i)) ∧ LogOk s ∧ Only (· = g) w1 wr) (fun iv _ => l.length - (intOf iv).toNat)
  case atStart => exact ⟨0, awS, Nat.zero_le _, rfl, H1.out.1, inv_new HNW.out, (newS_log HNW.out).1, Only.refl _ _⟩
  case round =>
    obtain ⟨i, s, hin, rfl, hst, hI, hL, hO⟩ := hrel
    have hzr := hO.size
    have hRB := H1.out.2.only hO (by omega) (by omega)
    have hct := costL_tk l i
    have hcl : costL l ≤ 20000 := by have h1 := HSM.out.2; have h2 := (sizeRs_bd l).1; omega
    have HS := Lib.hid (And.intro hst (And.intro hI (And.intro hL (And.intro hO hRB))))
    have HF := Lib.hid (hI.fit (by omega))
    clear hst hI hL hO hRB
    by_cases hlt : i < l.length
    · have hlt' : (i : Int) < l.length := by omega
      have hli := List.getElem?_eq_getElem hlt
      have hmem := List.getElem_mem hlt
      have hcn := costL_take hlt
      have hcn1 := costL_tk l (i + 1)
      have hfair := sizeR_fair (r := l[i]) (by have h1 := HSM.out.2; have h2 := (sizeRs_bd l).2 _ hmem; omega)
      obtain ⟨bb, o, nA, nc, pA, pc, sA, sc, rfl, hbw, hrec, hcs⟩ := recs_at HS.out.2.2.2.2.r hli
      generalize l[i] = r at *
      have x0 : wr.cell? ⟨bb, o + i * 18, none⟩ = some (.int .i64 r.kind) := hcs 0 _ rfl
      have HC := Lib.hid (And.intro hcn (And.intro hcs (And.intro hrec hfair)))
      clear hli hmem hcn hcs hrec hfair
      by_cases hk : r.kind = 9 ∨ r.kind = 10 ∨ r.kind = 11
      · have hcase : ((r.kind != 10) = false) ∨ ((r.kind != 10) = true ∧ (r.kind != 11) = false) ∨ ((r.kind != 10) = true ∧ (r.kind != 11) = true ∧ (r.kind != 9) = false) := by
          simp only [bne_eq_false_iff_eq, bne_iff_ne]
          omega
        clear hk
        rcases hcase with g1 | ⟨g1, g2⟩ | ⟨g1, g2, g3⟩
        all_goals
          go_wp2_with fail
          go_round
          case rel => exact ⟨i + 1, s, by omega, by go_num, HS.out.1, HS.out.2.1.mono (by rw [HC.out.1]; omega), HS.out.2.2.1, HS.out.2.2.2.1⟩
          case measure => simp [intOf]; omega
      · have g1 : (r.kind != 10) = true := bne_iff_ne.2 (by omega)
        have g2 : (r.kind != 11) = true := bne_iff_ne.2 (by omega)
        have g3 : (r.kind != 9) = true := bne_iff_ne.2 (by omega)
        have CAP := apply_any g s r nA pA sA nc pc sc _ (fun k => k < w.heap.size) wr HS.out.1 (fun h => h.2 rfl) HF.out HC.out.2.2.1 (fun h => by omega) HC.out.2.2.2 HS.out.2.2.2.2.tabs (by omega) (by omega)
        unfold StOut ptrV at CAP
        have hI2 := apply_inv (r := r) HS.out.2.1 (by omega)
        have hL2 := apply_logOk (r := r) HS.out.2.2.1 HS.out.2.1 (by omega) (by omega)
        generalize applyS s r = q at CAP hI2 hL2
        obtain ⟨s2, code⟩ := q
        dsimp only at CAP hI2 hL2
        have H2 := Lib.hid (And.intro hI2 hL2)
        clear hI2 hL2 hk
        go_wp2_with (first
          | ((with_reducible refine wpList_load_at rfl rfl ?_ HC.out.2.1 Tryz.underlying43 rfl (by kernel_rfl) ?_); · rfl)
          | fail)
        refine CAP.mono ?_
        clear CAP x0
        rintro e w3 ⟨rfl, hst3, hO3⟩
        have H3 := Lib.hid (And.intro (hst3.mono (Q := fun k => w.heap.size ≤ k ∧ k ≠ g) (fun k hk => by
          rcases hk with h | h
          · exact h
          · exact ⟨by omega, by omega⟩)) hO3)
        clear hst3 hO3
        go_wp2_with fail
        go_round
        case rel => exact ⟨i + 1, s2, by omega, by go_num, H3.out.1, by rw [HC.out.1]; exact H2.out.1, H2.out.2, HS.out.2.2.2.1.tr H3.out.2⟩
        case measure => simp [intOf]; omega
    · have HQ := Lib.hid (And.intro HS.out.1 (And.intro HS.out.2.1 (And.intro HS.out.2.2.1 HS.out.2.2.2.2)))
      have hself := HS.out.2.1.self
      have hs0 : s.self ≠ 0 := by omega
      have hlog : s.log.length ≤ 20000 := by have := HS.out.2.1.log; omega
      have htl := take_len s.table allHashes
      have hts2 := HF.out.fair.len
      have HLEN := Lib.hid (show lenS (takeT s.table allHashes) = s.log.length from log_take HS.out.2.2.1 HS.out.2.1.tab)
      have HVER := Lib.hid (fun (x : Stream) (hx : x ∈ takeT s.table allHashes) (k : Nat) (e : Event) (hk : x.events[k]? = some e) => take_versions HS.out.2.1.tab hx hk)
      have HGR := Lib.hid (fun (i k : Nat) (a b : Event) (hki : k < i) (ha : s.log[i]? = some a) (hb : s.log[k]? = some b) (he : a.stream = b.stream) => log_grows HS.out.2.2.1 HS.out.2.1.tab hki ha hb he)
      have HS0 := Lib.hid hs0
      clear hself hs0 HS
      go_wp2_with fail
      refine (all_any _).mono ?_
      rintro e w2 ⟨rfl, hb2⟩
      have H2 := Lib.hid (And.intro (HQ.out.1.ext hb2) (HQ.out.2.2.2.ext hb2))
      clear hb2
      have CT := stake_any g s allHashes _ w2 H2.out.1 HF.out
      unfold ptrV GotSts at CT
      go_wp2_with fail
      refine CT.mono ?_
      clear CT
      rintro e w3 ⟨⟨A3, c3, rfl, hrow⟩, hb3⟩
      have H3 := Lib.hid (And.intro hrow (And.intro (H2.out.1.ext hb3) (H2.out.2.ext hb3)))
      generalize takeT s.table allHashes = ts at *
      have hts : (ts.length : Int) ≤ 40000 := by omega
      have hlo : ((s.log.length : Nat) : Int) ≤ 20000 := by omega
      have hlo0 : 0 ≤ ((s.log.length : Nat) : Int) := Int.natCast_nonneg _
      clear hrow hb3 htl hts2
      go_wp2_with fail
      go_loopw [7, 8] (fun nv iv wr => ∃ j : Nat, j ≤ ts.length ∧ iv = .int .i64 j ∧ nv = .int .i64 (lenS (ts.take j)) ∧ wr = w3) (fun _ iv _ => ts.length - (intOf iv).toNat)
      case atStart => exact ⟨0, Nat.zero_le _, rfl, by simp [lenS], rfl⟩
      case round =>
        obtain ⟨j, hjn, rfl, rfl, hwr⟩ := hrel
        subst hwr
        have hs1 := lenS_tk ts j
        have hle := HLEN.out
        by_cases hlt2 : j < ts.length
        · have hlt2' : (j : Int) < ts.length := by omega
          have hlj := List.getElem?_eq_getElem hlt2
          have hmj := List.getElem_mem hlt2
          have htj := lenS_take hlt2
          have hs2 := lenS_tk ts (j + 1)
          obtain ⟨bb, o, cs, rfl, _, _, hrep, hcs⟩ := H3.out.1.at_ hlj
          have hver := HVER.out _ hmj
          generalize ts[j] = x at *
          obtain ⟨Ae, ce, Ak, ck, rfl, _, _, _, hev, _, _, _⟩ := stream_rep.1 hrep
          have c1 := hcs 1 _ rfl
          simp only [StreamR_size] at c1
          have HE := Lib.hid (And.intro hev (And.intro hver htj))
          have hn0 : 0 ≤ ((lenS (ts.take j) : Nat) : Int) := Int.natCast_nonneg _
          have hn1 : ((lenS (ts.take j) : Nat) : Int) ≤ 20000 := by omega
          have hm0 : 0 ≤ ((x.events.length : Nat) : Int) := Int.natCast_nonneg _
          have hm1 : ((x.events.length : Nat) : Int) ≤ 20000 := by omega
          clear hlj hmj htj hrep hcs hver hev hs1 hs2 hle
          generalize lenS (ts.take j) = n0 at *
          go_wp2_with fail
          go_loopw [9] (fun kv w' => ∃ k : Nat, k ≤ x.events.length ∧ kv = .int .i64 k ∧ w' = wr) (fun kv _ => x.events.length - (intOf kv).toNat)
          case atStart => exact ⟨0, Nat.zero_le _, rfl, rfl⟩
          case round =>
            obtain ⟨k, hkn, rfl, hwr⟩ := hrel
            subst hwr
            by_cases hlt3 : k < x.events.length
            · have hlt3' : (k : Int) < x.events.length := by omega
              have hlk := List.getElem?_eq_getElem hlt3
              have hv := HE.out.2.1 k _ hlk
              obtain ⟨be, oe, cse, rfl, _, _, hre, hce⟩ := HE.out.1.at_ hlk
              generalize x.events[k] = ev at *
              obtain ⟨rfl, _⟩ := event_rep.1 hre
              have d1 := hce 1 _ rfl
              simp only [EventR_size] at d1
              rw [hv] at d1
              clear hlk hv hre hce
              go_wp2_with fail
              go_round
              case rel => exact ⟨k + 1, by omega, by go_num, trivial⟩
              case measure => simp [intOf]; omega
            · have hkn2 : k = x.events.length := by omega
              go_wp2_with fail
              go_round
              case rel => exact ⟨j + 1, by omega, by go_num, by rw [HE.out.2.2]; go_num, trivial⟩
              case measure => simp [intOf]; omega
        · have hjn2 : j = ts.length := by omega
          subst hjn2
          rw [List.take_length, HLEN.out]
          have CL := slog_any g s _ wr H3.out.2.1 HS0.out (by omega)
          unfold GotOwn ptrV at CL
          have HWB := Lib.hid H3.out.2.2
          clear hs1 hle
          go_wp2_with fail
          refine CL.mono ?_
          clear CL
          rintro e w4 ⟨⟨v4, rfl, hv4⟩, hb4⟩
          obtain ⟨A4, c4, rfl, _⟩ := hv4.form
          have H4 := Lib.hid (And.intro (hv4.row' event_plain (P := fun _ => True) fun _ _ => trivial) (HWB.out.ext hb4).below)
          clear hv4 hb4
          go_wp2_with fail
          go_loopw [11] (fun iv wr => ∃ i : Nat, i ≤ s.log.length ∧ iv = .int .i64 i ∧ Below w4.heap.size w4 wr) (fun iv _ => s.log.length - (intOf iv).toNat)
          case atStart => exact ⟨0, Nat.zero_le _, rfl, Below.refl _ _⟩
          case round =>
            obtain ⟨m, hmn, rfl, hbl⟩ := hrel
            have HBL := Lib.hid hbl
            clear hbl
            by_cases hlm : m < s.log.length
            · have hlm' : (m : Int) < s.log.length := by omega
              go_wp2_with fail
              go_loopw [12] (fun kv wr => ∃ k : Nat, k ≤ m ∧ kv = .int .i64 k ∧ Below w4.heap.size w4 wr) (fun kv _ => m - (intOf kv).toNat)
              case atStart => exact ⟨0, Nat.zero_le _, rfl, HBL.out⟩
              case round =>
                obtain ⟨k, hkm, rfl, hbl⟩ := hrel
                have HB2 := Lib.hid hbl
                by_cases hkl : k < m
                · have hkl' : (k : Int) < m := by omega
                  have hkl2 : (k : Int) < s.log.length := by omega
                  have hgm := List.getElem?_eq_getElem hlm
                  have hgk := List.getElem?_eq_getElem (show k < s.log.length by omega)
                  have hgr := HGR.out m k _ _ hkl hgm hgk
                  obtain ⟨bm, om, csm, hAm, _, _, hrm, hcm⟩ := (H4.out.1.ext hbl).at_ hgm
                  obtain ⟨bk, ok, csk, hAk, _, _, hrk, hck⟩ := (H4.out.1.ext hbl).at_ hgk
                  generalize s.log[m] = em at *
                  generalize s.log[k]'(by omega) = ek at *
                  obtain ⟨rfl, _⟩ := event_rep.1 hrm
                  obtain ⟨rfl, _⟩ := event_rep.1 hrk
                  subst hAm
                  injection hAk with hAk
                  injection hAk with e1 e2 e3
                  subst e1 e2
                  have c0 := hcm 0 _ rfl
                  have c1 := hcm 1 _ rfl
                  have d0 := hck 0 _ rfl
                  have d1 := hck 1 _ rfl
                  simp only [EventR_size, Nat.add_zero] at c0 c1 d0 d1
                  clear hgm hgk hrm hrk hcm hck hbl
                  by_cases heq : em.stream = ek.stream
                  · have hv : decide (em.version ≤ ek.version) = false := decide_eq_false (by have := hgr heq; omega)
                    rw [heq] at c0
                    clear hgr heq
                    go_wp2_with fail
                    go_quiet (fail)
                    go_wp2_with fail
                    go_round
                    case rel => exact ⟨k + 1, by omega, by go_num, HB2.out.drewN _⟩
                    case measure => simp [intOf]; omega
                  · have hne : (em.stream.toList == ek.stream.toList) = false := by
                      rw [beq_eq_false_iff_ne]; intro h; exact heq (str_ext h)
                    clear hgr heq
                    go_wp2_with fail
                    go_quiet (fail)
                    go_wp2_with fail
                    go_round
                    case rel => exact ⟨k + 1, by omega, by go_num, HB2.out.drewN _⟩
                    case measure => simp [intOf]; omega
                · have hkm2 : k = m := by omega
                  clear hbl
                  go_wp2_with fail
                  go_round
                  case rel => exact ⟨m + 1, by omega, by go_num, HB2.out⟩
                  case measure => simp [intOf]; omega
            · have hmn2 : m = s.log.length := by omega
              have HW5 := Lib.hid (H4.out.2.tr HBL.out)
              go_wp2_with fail
              refine (CA.out wr HW5.out).mono ?_
              rintro e w6 ⟨rfl, hb6⟩
              go_wp2_with fail
              go_ret
              exact ⟨rfl, HW5.out.tr hb6⟩
end Go.Proofs.YtpgocpodhamibaaGreatDoor
namespace Go.Proofs.YtpgocpodhamibaaGreatDoor
set_option maxRecDepth 100000
open Go.RowKit Go.ChangeShapes Go.WideShapes Go.Deep

/-- Whatever reads at type t is a datum of R. -/
def Opens {α : Type} (R : Rep α) (t : TypeId) : Prop := Tryz.prog.cellsOf t = R.size ∧ ∀ (H : Type) (enc : TypeId × Value → H) (w : World) (base : Nat) (sp : Nat → Bool) (held : Bool) (fuel : Nat) (cs : List Value) (x : DataW H × List MemPlace),
  DataW.trod enc Tryz.prog w base sp held fuel t cs = some x → ∃ a, R.rep w (fun g => g < w.heap.size) cs a
/-- One behind the other. -/
def Parts {H : Type} (enc : TypeId × Value → H) (w : World) (base : Nat) (sp : Nat → Bool) (held : Bool) (fuel : Nat) : List TypeId → List Value → Prop
  | [], cs => cs = []
  | t :: ts, cs => (∃ y, DataW.trod enc Tryz.prog w base sp held fuel t (cs.take (Tryz.prog.cellsOf t)) = some y) ∧ Parts enc w base sp held fuel ts (cs.drop (Tryz.prog.cellsOf t))
def OpensF {α : Type} (R : Rep α) (ts : List TypeId) : Prop := ∀ (H : Type) (enc : TypeId × Value → H) (w : World) (base : Nat) (sp : Nat → Bool) (held : Bool) (fuel : Nat) (cs : List Value), Parts enc w base sp held fuel ts cs → ∃ a, R.rep w (fun g => g < w.heap.size) cs a
def offB (P : Program) (n : Nat) : List Field → Nat → Bool
  | [], off => decide (off = n)
  | f :: r, off => decide (f.offset = off) && offB P n r (off + P.cellsOf f.type)

section
variable {α β : Type} {R : Rep α} {S : Rep β}
theorem parts_of {H : Type} {enc : TypeId × Value → H} {w : World} {base : Nat} {sp : Nat → Bool} {held : Bool} {fuel : Nat} {cs : List Value} : ∀ (fs : List Field) (off : Nat), (∀ f ∈ fs, ∃ y, DataW.trod enc Tryz.prog w base sp held fuel f.type ((cs.drop f.offset).take (Tryz.prog.cellsOf f.type)) = some y) → offB Tryz.prog cs.length fs off = true →
    Parts enc w base sp held fuel (fs.map (·.type)) (cs.drop off)
  | [], off, _, ho => by
    simp only [offB, decide_eq_true_eq] at ho
    subst ho
    simp [Parts]
  | f :: r, off, h, ho => by
    simp only [offB, Bool.and_eq_true, decide_eq_true_eq] at ho
    obtain ⟨rfl, ho⟩ := ho
    refine ⟨h f (by simp), ?_⟩
    have := parts_of r _ (fun g hg => h g (by simp [hg])) ho
    rwa [List.drop_drop]
theorem Opens.one {t : TypeId} (h : Opens R t) : OpensF R [t] := fun H enc w base sp held fuel cs hp => by
  obtain ⟨⟨y, hy⟩, hd⟩ := hp
  obtain ⟨a, ha⟩ := h.2 _ _ _ _ _ _ _ _ _ hy
  simp only [Parts] at hd
  rw [List.take_of_length_le (by simpa using hd)] at ha
  exact ⟨a, ha⟩
theorem Opens.more {t : TypeId} {ts : List TypeId} (h : Opens R t) (k : OpensF S ts) : OpensF (R.cat S) (t :: ts) := fun H enc w base sp held fuel cs hp => by
  obtain ⟨⟨y, hy⟩, hd⟩ := hp
  obtain ⟨a, ha⟩ := h.2 _ _ _ _ _ _ _ _ _ hy
  obtain ⟨b, hb⟩ := k _ _ _ _ _ _ _ _ hd
  exact ⟨(a, b), _, _, (List.take_append_drop _ _).symm, ha, hb⟩
theorem OpensF.struct {fs : Array Field} {t : TypeId} (ht : Tryz.prog.underlying t = some (.struct fs)) (hc : Tryz.prog.cellsOf t = R.size) (ho : offB Tryz.prog (Tryz.prog.cellsOf t) fs.toList 0 = true) (h : OpensF R (fs.toList.map (·.type))) : Opens R t := ⟨hc, fun H enc w base sp held fuel cs x hx => by
  obtain ⟨xs, n, _, _, hl, hxl, hf⟩ := DataW.trod_struct ht hx
  have := parts_of (enc := enc) (w := w) (base := base) (sp := sp) (held := held) (fuel := n) (cs := cs) fs.toList 0 (fun f hfm => by
    obtain ⟨i, hi, rfl⟩ := List.getElem_of_mem hfm
    have h1 := hf i fs.toList[i] (by simp at hi; simp [hi])
    rw [h1]
    have : i < xs.length := by rw [hxl]; simpa using hi
    exact ⟨xs[i], List.getElem?_eq_getElem this⟩) (by rw [hl]; exact ho)
  exact h _ _ _ _ _ _ _ _ (by simpa using this)⟩
theorem Opens.via {t : TypeId} {f : β → α} (g : α → β) (hg : ∀ a, f (g a) = a) (h : Opens R t) : Opens (R.via f) t := ⟨h.1, fun H enc w base sp held fuel cs x hx => by
  obtain ⟨a, ha⟩ := h.2 _ _ _ _ _ _ _ _ _ hx
  refine ⟨g a, ?_⟩
  show R.rep _ _ _ (f (g a))
  rw [hg]; exact ha⟩
theorem Opens.sl {t e : TypeId} (ht : Tryz.prog.underlying t = some (.slice e)) (hc : Tryz.prog.cellsOf t = 1) (h : Opens R e) : Opens R.sl t := ⟨hc, fun H enc w base sp held fuel cs x hx => by
  rcases open_slice ht hx with ⟨h0, _⟩ | ⟨a, len, cap, m, n, D, Pl, hcs, hb, hl, hcap, hmm, _, hi⟩
  · exact ⟨[], none, 0, h0, Nat.le_refl _, by simp, Rep.Row.nil_⟩
  · have hlm : len ≤ m := by rw [hmm]; split <;> omega
    rw [h.1] at hi
    have hcap' : cap ≤ 9223372036854775807 := by unfold maxLen at hcap; omega
    by_cases hz : len = 0
    · exact ⟨[], some a, cap, by rw [hcs, hz]; rfl, Nat.zero_le _, hcap', Rep.Row.nil_⟩
    have key : ∀ i, i < len → ∃ cs' y, R.rep w (fun g => g < w.heap.size) cs' y ∧ ∀ j u, cs'[j]? = some u → w.cell? (a.add (i * R.size + j)) = some u := fun i hil => by
      obtain ⟨cs', h1, h2⟩ := hi i (by omega)
      obtain ⟨y, hy⟩ := h.2 _ _ _ _ _ _ _ _ _ h2
      obtain ⟨_, _, hat⟩ := World.cells?_some h1
      refine ⟨cs', y, hy, fun j u hu => ?_⟩
      have hj : j < R.size := by have := (List.getElem?_eq_some_iff.1 hu).1; rwa [R.len hy] at this
      have := hat j hj
      rw [add_of_add] at this
      exact this.trans hu
    have first : ∃ u, w.cell? a = some u := by
      obtain ⟨cs', y, hy, hat⟩ := key 0 (by omega)
      have hp := R.pos
      have hl : 0 < cs'.length := by rw [R.len hy]; exact hp
      have := hat 0 cs'[0] (List.getElem?_eq_getElem hl)
      exact ⟨cs'[0], by simpa [Addr.add] using this⟩
    obtain ⟨u0, hu0⟩ := first
    have hbl := lt_of_cell hu0
    obtain ⟨b, o, q⟩ := a
    have hq : q = none := by
      cases q with
      | none => rfl
      | some q =>
        simp only [World.cell?] at hu0
        split at hu0 <;> cases hu0
    subst hq
    have list : ∀ k, k ≤ len → ∃ l : List α, l.length = k ∧ ∀ i y, l[i]? = some y → ∃ cs', R.rep w (fun g => g < w.heap.size) cs' y ∧ ∀ j u, cs'[j]? = some u → w.cell? ⟨b, o + i * R.size + j, none⟩ = some u := by
      intro k
      induction k with
      | zero => intro _; exact ⟨[], rfl, by simp⟩
      | succ k ih =>
        intro hk
        obtain ⟨l, hn, hl'⟩ := ih (by omega)
        obtain ⟨cs', y, hy, hat⟩ := key k (by omega)
        refine ⟨l ++ [y], by simp [hn], fun i y' hi' => ?_⟩
        by_cases hik : i < k
        · rw [List.getElem?_append_left (by omega)] at hi'
          exact hl' i y' hi'
        · rw [List.getElem?_append_right (by omega), hn] at hi'
          have : i = k := by
            have := (List.getElem?_eq_some_iff.1 hi').1
            simp at this; omega
          subst this
          simp at hi'
          subst hi'
          refine ⟨cs', hy, fun j u hu => ?_⟩
          have := hat j u hu
          rwa [add_off, ← Nat.add_assoc] at this
    obtain ⟨l, hn, hl'⟩ := list len (Nat.le_refl _)
    subst hn
    exact ⟨l, _, cap, hcs, hl, hcap', fun _ => ⟨b, o, rfl, hbl, hbl, hl'⟩⟩⟩
theorem opens_int : Opens IntR 3 := ⟨by kernel_rfl, fun H enc w base sp held fuel cs x hx => by
  obtain ⟨n, rfl, _, h⟩ := DataW.trod_int Tryz.underlying3 hx
  exact ⟨n, rfl, by have := h; simp only [Lit.wf, Bool.and_eq_true, decide_eq_true_eq, show IntKind.i64.min = -9223372036854775808 from by decide, show IntKind.i64.max = 9223372036854775807 from by decide] at this; omega⟩⟩
theorem opens_string : Opens StrR 9 := ⟨by kernel_rfl, fun H enc w base sp held fuel cs x hx => by
  obtain ⟨s, rfl, _, h⟩ := DataW.trod_string Tryz.underlying9 hx
  exact ⟨s, rfl, by unfold maxLen at h; omega⟩⟩
theorem opens_bool : Opens BoolR 4 := ⟨by kernel_rfl, fun H enc w base sp held fuel cs x hx => by
  obtain ⟨b, rfl, _⟩ := DataW.trod_bool Tryz.underlying4 hx
  exact ⟨b, rfl⟩⟩
end
theorem opens_strings : Opens StrR.sl 27 := opens_string.sl Tryz.underlying27 (by kernel_rfl)
theorem opens_ints : Opens IntR.sl 38 := opens_int.sl Tryz.underlying38 (by kernel_rfl)
theorem opens_stamp : Opens StampR 37 := Opens.via (fun s => ⟨s.1, s.2.1, s.2.2⟩) (fun _ => rfl) (OpensF.struct Tryz.underlying37 (by kernel_rfl) (by kernel_rfl) (opens_int.more (opens_int.more opens_int.one)))
theorem opens_tx : Opens TxR 34 := Opens.via (fun s => ⟨s.1, s.2.1, s.2.2⟩) (fun _ => rfl) (OpensF.struct Tryz.underlying34 (by kernel_rfl) (by kernel_rfl) (opens_int.more (opens_int.more opens_int.one)))
theorem opens_range : Opens RangeR 40 := Opens.via (fun s => ⟨s.1, s.2.1, s.2.2.1, s.2.2.2⟩) (fun _ => rfl) (OpensF.struct Tryz.underlying40 (by kernel_rfl) (by kernel_rfl) (opens_int.more (opens_int.more (opens_int.more opens_int.one))))
theorem opens_put : Opens PutR 29 := Opens.via (fun s => ⟨s.1, s.2.1, s.2.2⟩) (fun _ => rfl) (OpensF.struct Tryz.underlying29 (by kernel_rfl) (by kernel_rfl) (opens_string.more (opens_int.more opens_strings.one)))
theorem opens_puts : Opens PutR.sl 30 := opens_put.sl Tryz.underlying30 (by kernel_rfl)
theorem opens_batch : Opens BatchR 32 := Opens.via (fun s => ⟨s.1, s.2⟩) (fun _ => rfl) (OpensF.struct Tryz.underlying32 (by kernel_rfl) (by kernel_rfl) (opens_string.more opens_puts.one))
theorem opens_event : Opens EventR 63 := Opens.via (fun s => ⟨s.1, s.2.1, s.2.2.1, s.2.2.2.1, s.2.2.2.2⟩) (fun _ => rfl) (OpensF.struct Tryz.underlying63 (by kernel_rfl) (by kernel_rfl) (opens_string.more (opens_int.more (opens_string.more (opens_stamp.more opens_int.one)))))
theorem opens_events : Opens EventR.sl 45 := opens_event.sl Tryz.underlying45 (by kernel_rfl)
theorem opens_known : Opens KnownR 70 := Opens.via (fun s => ⟨s.1, s.2.1, s.2.2⟩) (fun _ => rfl) (OpensF.struct Tryz.underlying70 (by kernel_rfl) (by kernel_rfl) (opens_string.more (opens_int.more opens_stamp.one)))
theorem opens_knowns : Opens KnownR.sl 59 := opens_known.sl Tryz.underlying59 (by kernel_rfl)
theorem opens_stream : Opens StreamR 61 := Opens.via (fun s => ⟨s.1, s.2.1, s.2.2⟩) (fun _ => rfl) (OpensF.struct Tryz.underlying61 (by kernel_rfl) (by kernel_rfl) (opens_string.more (opens_events.more opens_knowns.one)))
theorem opens_streams : Opens StreamR.sl 41 := opens_stream.sl Tryz.underlying41 (by kernel_rfl)
theorem opens_rec : Opens RecR 43 := Opens.via (fun s => ⟨s.1, s.2.1, s.2.2.1, s.2.2.2.1, s.2.2.2.2.1, s.2.2.2.2.2.1, s.2.2.2.2.2.2.1, s.2.2.2.2.2.2.2.1, s.2.2.2.2.2.2.2.2.1, s.2.2.2.2.2.2.2.2.2⟩) (fun _ => rfl)
  (OpensF.struct Tryz.underlying43 (by kernel_rfl) (by kernel_rfl) (opens_int.more (opens_int.more (opens_int.more (opens_bool.more (opens_stamp.more (opens_tx.more (opens_ints.more (opens_batch.more (opens_range.more opens_streams.one))))))))))
theorem opens_recs : Opens RecR.sl 48 := opens_rec.sl Tryz.underlying48 (by kernel_rfl)
end Go.Proofs.YtpgocpodhamibaaGreatDoor
