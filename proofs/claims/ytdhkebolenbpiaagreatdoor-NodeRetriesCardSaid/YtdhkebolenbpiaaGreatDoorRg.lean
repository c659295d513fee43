/- Calls that were run before: what they leave is written out at once. -/
import Derived.Test.YtdhkebolenbpiaaGreatDoorRk
namespace Go.Proofs.YtdhkebolenbpiaaGreatDoor.X
open Go.RowKit
section
variable {β : Type}
noncomputable def fcA (a : Addr) (k : Addr → β) : β := forceN a.block fun b => forceN a.off fun o => k ⟨b, o, a.spot⟩
mutual
noncomputable def fcV : Value → (Value → β) → β
  | .int kd (.ofNat n), k => forceN n fun n => k (.int kd (.ofNat n))
  | .pointer (some a), k => fcA a fun a => k (.pointer (some a))
  | .slice (some a) n c, k => fcA a fun a => forceN n fun n => forceN c fun c => k (.slice (some a) n c)
  | .map (some r), k => forceN r fun r => k (.map (some r))
  | .complex kd i b, k => forceN i fun i => forceN b fun b => k (.complex kd i b)
  | .agg ⟨a⟩, k => fcL a fun a => k (.agg ⟨a⟩)
  | .tuple ⟨a⟩, k => fcL a fun a => k (.tuple ⟨a⟩)
  | v, k => k v
noncomputable def fcL : List Value → (List Value → β) → β
  | [], k => k []
  | v :: l, k => fcV v fun v => fcL l fun l => k (v :: l)
end
theorem fcA_eq (a : Addr) (k : Addr → β) : fcA a k = k a := by
  unfold fcA
  rw [forceN_eq, forceN_eq]
mutual
theorem fcV_eq : ∀ (v : Value) (k : Value → β), fcV v k = k v
  | .int kd (.ofNat n), k => by unfold fcV; rw [forceN_eq]
  | .pointer (some a), k => by unfold fcV; rw [fcA_eq]
  | .slice (some a) n c, k => by unfold fcV; rw [fcA_eq, forceN_eq, forceN_eq]
  | .map (some r), k => by unfold fcV; rw [forceN_eq]
  | .complex kd i b, k => by unfold fcV; rw [forceN_eq, forceN_eq]
  | .agg ⟨a⟩, k => by unfold fcV; rw [fcL_eq]
  | .tuple ⟨a⟩, k => by unfold fcV; rw [fcL_eq]
  | .int kd (.negSucc n), k => by unfold fcV; rfl
  | .pointer none, k => by unfold fcV; rfl
  | .slice none n c, k => by unfold fcV; rfl
  | .map none, k => by unfold fcV; rfl
  | .bool _, k => by unfold fcV; rfl
  | .float _ _, k => by unfold fcV; rfl
  | .string _, k => by unfold fcV; rfl
  | .chan _, k => by unfold fcV; rfl
  | .func _ _ _, k => by unfold fcV; rfl
  | .nilFunc, k => by unfold fcV; rfl
  | .iface _ _, k => by unfold fcV; rfl
  | .nilIface, k => by unfold fcV; rfl
theorem fcL_eq : ∀ (l : List Value) (k : List Value → β), fcL l k = k l
  | [], k => by unfold fcL; rfl
  | v :: l, k => by unfold fcL; rw [fcV_eq, fcL_eq]
end
noncomputable def fcO (o : AO) (k : AO → β) : β :=
  match o with
  | .row cs e l => fcL cs fun cs => k (.row cs e l)
  | o => k o
theorem fcO_eq (o : AO) (k : AO → β) : fcO o k = k o := by
  unfold fcO
  split
  · rw [fcL_eq]
  · rfl
noncomputable def fcE (l : Ents) : (Ents → β) → β :=
  List.rec (motive := fun _ => (Ents → β) → β) (fun k => k []) (fun p _ go k => forceN p.1 fun i => fcO p.2 fun o => go fun r => k ((i, o) :: r)) l
theorem fcE_eq : ∀ (l : Ents) (k : Ents → β), fcE l k = k l
  | [], _ => rfl
  | p :: l, k => by
    show forceN p.1 (fun i => fcO p.2 fun o => fcE l fun r => k ((i, o) :: r)) = _
    rw [forceN_eq, fcO_eq, fcE_eq l]
end
/-- Tables are held against each other without a renaming. -/
noncomputable def eqI (v w : Value) : Bool := match v, w with | .int k (.ofNat n), .int k' (.ofNat m) => Nat.beq n m && eqK k k' | _, _ => false
noncomputable def eqIs (l : List Value) : List Value → Bool :=
  List.rec (motive := fun _ => List Value → Bool) (fun m => List.rec (motive := fun _ => Bool) true (fun _ _ _ => false) m)
    (fun v _ go m => List.rec (motive := fun _ => Bool) false (fun w m _ => iff' (eqI v w) (go m) false) m) l
theorem eqI_eq {v w : Value} (h : eqI v w = true) : v = w ∧ (∀ σ, ren σ w = w) ∧ sameF w w = true := by
  unfold eqI at h
  split at h
  · rename_i k n k' m
    rw [Bool.and_eq_true] at h
    have e1 := Nat.eq_of_beq_eq_true h.1
    have e2 : k = k' := eqK_eq h.2
    subst e1; subst e2
    exact ⟨rfl, fun σ => by unfold ren; rfl, same_int⟩
  · cases h
theorem eqIs_eq : ∀ {l m : List Value}, eqIs l m = true → l = m ∧ (∀ σ, renL σ m = m) ∧ samesF m m = true
  | [], [], _ => ⟨rfl, fun σ => by unfold renL; rfl, rfl⟩
  | [], _ :: _, h => by cases h
  | _ :: _, [], h => by cases h
  | v :: l, w :: m, h => by
    have h' : iff' (eqI v w) (eqIs l m) false = true := h
    rw [iff_eq] at h'
    cases hv : eqI v w with
    | false => rw [hv] at h'; cases h'
    | true =>
      rw [hv] at h'
      obtain ⟨e1, e2, e5⟩ := eqI_eq hv
      obtain ⟨e3, e4, e6⟩ := eqIs_eq h'
      refine ⟨by rw [e1, e3], fun σ => by unfold renL; rw [e2, e4], ?_⟩
      show iff' (sameF w w) (samesF m m) false = true
      rw [iff_eq, e5, e6]
      rfl
noncomputable def sameT (σ : Nat → Nat) (o : Option AO) (o' : AO) : Bool :=
  match o' with
  | .tab y => (match o with | some (.tab x) => eqIs x y | _ => false)
  | o' => sameO o (renO σ o')
theorem sameT_O {σ : Nat → Nat} {o : Option AO} {o' : AO} (h : sameT σ o o' = true) : sameO o (renO σ o') = true := by
  unfold sameT at h
  split at h
  · rename_i y
    split at h
    · rename_i x
      obtain ⟨e1, e2, e3⟩ := eqIs_eq h
      subst e1
      show sameAO (.tab x) (.tab (renL σ x)) = true
      rw [e2]
      exact e3
    · cases h
  · exact h
noncomputable def subT (σ : Nat → Nat) (l : Ents) (t : Tr AO) : Bool := List.rec (motive := fun _ => Bool) true (fun p _ r => iff' (sameT σ ((getB (σ p.1)).use t) p.2) r false) l
noncomputable def KF1 (g : Seg) (args : List Value) (s : St) (σ : Nat → Nat) : Option (Value × St) :=
  iff' (samesF (renL σ g.args) args && (subT σ g.st s.heap && (injL σ g.st .nil && (liveD σ g.st && ltD σ (s.next + (g.next2 - g.next)) g.diff))))
    (fcE (renD σ g.diff) fun d => fcV (ren σ g.v) fun v => forceN (s.next + (g.next2 - g.next)) fun n => some (v, { heap := setAll d s.heap, next := n })) none
noncomputable def KF (G : Nat) (g : Seg) (f : FuncId) (args : List Value) (s : St) : Option (Value × St) :=
  iff' (Nat.beq f g.f)
    (iff' (samesF (renL (sgm G g.next s.next (s.next + g.next2) (uL g.args args .nil)) g.args) args)
      (KF1 g args s (sgm G g.next s.next (s.next + g.next2) (uAll G s.heap g.st (uL g.args args .nil)))) none) none
theorem subT_R {σ : Nat → Nat} {t : Tr AO} : ∀ {l : Ents}, subT σ l t = true → subR σ l t = true
  | [], _ => rfl
  | p :: l, h => by
    have h' : iff' (sameT σ ((getB (σ p.1)).use t) p.2) (subT σ l t) false = true := h
    show iff' (sameO ((getB (σ p.1)).use t) (renO σ p.2)) (subR σ l t) false = true
    rw [iff_eq] at h' ⊢
    cases hv : sameT σ ((getB (σ p.1)).use t) p.2 with
    | false => rw [hv] at h'; cases h'
    | true =>
      rw [hv] at h'
      rw [sameT_O hv]
      exact subT_R h'
theorem KF1_some {g : Seg} {args : List Value} {s : St} {σ : Nat → Nat} {x : Value × St} (h : KF1 g args s σ = some x) : KR1 g args s σ = some x := by
  unfold KF1 at h
  rw [iff_eq] at h
  obtain ⟨h1, h2⟩ := bif_some h
  rw [fcE_eq, fcV_eq, forceN_eq] at h2
  simp only [Bool.and_eq_true] at h1
  unfold KR1
  rw [iff_eq, h1.1, subT_R h1.2.1, h1.2.2.1, h1.2.2.2.1, h1.2.2.2.2]
  exact h2
theorem KF_some {G : Nat} {g : Seg} {f : FuncId} {args : List Value} {s : St} {x : Value × St} (h : KF G g f args s = some x) : KR G g f args s = some x := by
  unfold KF at h
  rw [iff_eq, iff_eq] at h
  obtain ⟨h1, h⟩ := bif_some h
  obtain ⟨h2, h⟩ := bif_some h
  unfold KR
  rw [iff_eq, iff_eq, h1, h2]
  exact KF1_some h
noncomputable def KMF (G : Nat) (fs : List FuncId) (gs : List Seg) (f : FuncId) (args : List Value) (s : St) : Option (Value × St) :=
  iff' (fs.any (Nat.beq f)) (List.rec (motive := fun _ => Option (Value × St)) none (fun g _ r => Option.rec (motive := fun _ => Option (Value × St)) r (fun x => some x) (KF G g f args s)) gs) none
theorem KMF_mem {G : Nat} {f : FuncId} {args : List Value} {s : St} {x : Value × St} : ∀ {gs : List Seg}, List.rec (motive := fun _ => Option (Value × St)) none (fun g _ r => Option.rec (motive := fun _ => Option (Value × St)) r (fun x => some x) (KF G g f args s)) gs = some x → ∃ g ∈ gs, KR G g f args s = some x
  | [], h => by cases h
  | g :: gs, h => by
    have h' : Option.rec (motive := fun _ => Option (Value × St)) (List.rec (motive := fun _ => Option (Value × St)) none (fun g _ r => Option.rec (motive := fun _ => Option (Value × St)) r (fun x => some x) (KF G g f args s)) gs) (fun x => some x) (KF G g f args s) = some x := h
    cases hg : KF G g f args s with
    | some y =>
      rw [hg] at h'
      have h' : some y = some x := h'
      injection h' with h'
      subst h'
      exact ⟨g, by simp, KF_some hg⟩
    | none =>
      rw [hg] at h'
      obtain ⟨g', h1, h2⟩ := KMF_mem h'
      exact ⟨g', by simp [h1], h2⟩
theorem known_KMF {P : Program} {G V : Nat} {fs : List FuncId} {gs : List Seg} (h : ∀ g ∈ gs, Good P G V g) : Known P G V (KMF G fs gs) := by
  intro f args s v s2 hk b ρ w args' hbG hw hl cs
  unfold KMF at hk
  rw [iff_eq] at hk
  obtain ⟨_, hk1⟩ := bif_some hk
  obtain ⟨g, h1, h2⟩ := KMF_mem hk1
  exact h g h1 h2 hbG hw hl cs
/-- The tables, held against what they were in the same way. -/
noncomputable def tabsF (f a : Nat) (s : St) : Bool :=
  match (getB f).use s.heap, (getB a).use s.heap with
  | some (.tab x), some (.tab y) => eqIs x firstRow && eqIs y accRow
  | _, _ => false
theorem sames_first : sames firstRow firstRow = true := by kernel_rfl
theorem sames_acc : sames accRow accRow = true := by kernel_rfl
theorem tabsF_here {f a : Nat} {s : St} (h : tabsF f a s = true) : tabsHere f a s = true := by
  unfold tabsF at h
  rw [getB_eq, getB_eq] at h
  unfold tabsHere
  split at h
  · rename_i x y hx hy
    rw [Bool.and_eq_true] at h
    rw [hx, hy]
    dsimp only
    rw [(eqIs_eq h.1).1, (eqIs_eq h.2).1, sames_first, sames_acc]
    rfl
  · cases h
noncomputable def KAf (fs : List FuncId) (f a : Nat) (g : FuncId) (args : List Value) (s : St) : Option (Value × St) :=
  match args with
  | [] => bif fs.any (Nat.beq g) then bif tabsF f a s then some (.bool true, s) else none else none
  | _ => none
theorem known_KAf {P : Program} {G V : Nat} {fs : List FuncId} {f a : Nat} (h : Known P G V (KA fs f a)) : Known P G V (KAf fs f a) := by
  intro g args s v s2 hk b ρ w args' hbG hw hl cs
  have hk' : KA fs f a g args s = some (v, s2) := by
    unfold KAf at hk
    unfold KA
    split at hk
    · obtain ⟨h1, h2⟩ := bif_some hk
      obtain ⟨h3, h4⟩ := bif_some h2
      rw [h1, tabsF_here h3]
      exact h4
    · cases hk
  exact h hk' hbG hw hl cs
/-- A call's number may be any number. -/
noncomputable def KNum3 (fC : Nat) (K : FuncId → List Value → St → Option (Value × St)) (f : FuncId) (args : List Value) (s : St) : Option (Value × St) :=
  bif Nat.beq f fC then
    match args with
    | [a, b, .int .i64 _, d] => K f [a, b, .float .f64 1, d] s
    | _ => none
  else none
theorem known_KNum3 {P : Program} {G V fC : Nat} {K : FuncId → List Value → St → Option (Value × St)} (h : Known P G V K) : Known P G V (KNum3 fC K) := by
  intro f args s v s2 hk b ρ w args' hbG hw hl cs
  unfold KNum3 at hk
  obtain ⟨_, hk1⟩ := bif_some hk
  clear hk
  split at hk1
  · rename_i a b' n d
    cases hl with
    | cons _ a' _ _ h1 hl =>
    cases hl with
    | cons _ b2 _ _ h2 hl =>
    cases hl with
    | cons _ n' _ _ h3 hl =>
    cases h3
    exact h hk1 hbG hw (.cons _ _ _ _ h1 (.cons _ _ _ _ h2 (.cons _ _ _ _ (.txt 1 _ (.inr (.inl ⟨rfl, n, rfl⟩))) hl))) cs
  · cases hk1
end Go.Proofs.YtdhkebolenbpiaaGreatDoor.X
