/- The program's ring, table and state, plain: what each function computes. The table and the state in memory. The table and the state in memory: where each part lies. DERIVED: THE SHELF's CONTRACTS AT THIS DUMP, IN PLAIN WORDS (tools/lay-plain.mjs out of 'YtcmjgghkmdbphaaGreatDoorSlRaw.lean', which tools/lay-shelf.mjs wrote): THE SAME DECLARATIONS UNDER THE SAME NAMES: 'import', 'namespace', 'open', 'def', 'theorem' AND NOTHING ELSE: no command of the shelf's: FOR A HAND-IN. Each laying: the table of numbers ('.._ren') and one theorem, a field a fact of the dump's own or the kernel's comparison; each contract: ONE APPLICATION. Ranging over a map: its entries come one by one, in whatever order. Look-ups whose answer is known. A struct that lies in a block of its own is read at one step. Txs as keys of maps; with, without. -/
import Derived.Test.YtcmjgghkmdbphaaGreatDoorG07
import Derived.Test.YtcmjgghkmdbphaaGreatDoorG03
import Derived.Test.YtcmjgghkmdbphaaGreatDoorG06
import Derived.Shelf.SlGeneric
import Derived.Shelf.SlIter.Nil
import Derived.Shelf.SortM.Plain
import Derived.Shelf.SortM.SortNone
import Derived.Shelf.SlMaps.Clone
import Derived.Ground.GgzProg
import Derived.Ground.SlgmProg
import Derived.Ground.SlmcProg
import Derived.Test.YtcmjgghkmdbphaaGreatDoorProg
import Derived.Maps.RangeWalk
import Derived.Test.YtcmjgghkmdbphaaGreatDoorG04
import Derived.Test.YtcmjgghkmdbphaaGreatDoorG01
import Derived.Laws.Rows
import Derived.Deep.WholeRow
import Derived.BigQuiet
set_option maxRecDepth 20000
set_option maxHeartbeats 25600000
namespace Go.Proofs.YtcmjgghkmdbphaaGreatDoor
open Go.RowKit
def getA {κ β : Type} [DecidableEq κ] (k : κ) : List (κ × β) → Option β
 | [] => none
 | (x, v) :: l => if k = x then some v else getA k l
def putA {κ β : Type} [DecidableEq κ] (k : κ) (v : β) : List (κ × β) → List (κ × β)
 | [] => [(k, v)]
 | (x, u) :: l => if k = x then (x, v) :: l else (x, u) :: putA k v l
def delA {κ β : Type} [DecidableEq κ] (k : κ) : List (κ × β) → List (κ × β)
 | [] => []
 | (x, u) :: l => if k = x then l else (x, u) :: delA k l
def sortS (l : List Str) : List Str := l.mergeSort fun a b => decide (a.data.toList ≤ b.data.toList)
def Range.has (r : Range) (h : Int) : Bool := decide (r.first ≤ h) && decide (h ≤ r.last)
def ownedB (r : Range) : Bool := decide (1 ≤ r.owner) && (decide (r.owner ≤ 5) && (decide (1 ≤ r.epoch) && decide (r.epoch ≤ 1099511627776)))
def soundFrom : List Range → Int → Option Int
 | [], n => some n
 | r :: l, n => if r.first = n ∧ n ≤ r.last ∧ r.last ≤ 4294967295 ∧ ownedB r = true then soundFrom l (r.last + 1) else none
def soundR (l : List Range) : Bool := decide (soundFrom l 0 = some 4294967296) && decide (l.length ≤ 64)
def atR (l : List Range) (h : Int) : Int := if soundR l then idxI (fun r => r.has h) l else -1
def zeroRange : Range := ⟨0, 0, 0, 0⟩
def findR (l : List Range) (h : Int) : Range × Bool := if atR l h < 0 then (zeroRange, false) else (l.getD (atR l h).toNat zeroRange, true)
def ofR (l : List Range) (s : Str) : Range × Bool := findR l (hashS s)
def beginR (n k : Int) : Int := k * 4294967296 / n
def newRange (n : Int) (k : Nat) : Range := ⟨beginR n k, beginR n (k + 1) - 1, k + 1, 1⟩
def newR (n : Int) : List Range × Int := if n < 1 ∨ 5 < n then ([], 1) else ((List.range n.toNat).map (newRange n), 0)
def splitR (l : List Range) (h : Int) : List Range × Int :=
 let i := atR l h
 let x := l.getD i.toNat zeroRange
 if i < 0 ∨ x.first = h ∨ x.epoch = 1099511627776 then ([], 1)
 else if 64 ≤ l.length then ([], 2)
 else (l.take i.toNat ++ ([{ x with last := h - 1, epoch := x.epoch + 1 }, { x with first := h, epoch := x.epoch + 1 }] ++ l.drop (i.toNat + 1)), 0)
def setR (l : List Range) (r : Range) : List Range × Int :=
 let i := atR l r.first
 let x := l.getD i.toNat zeroRange
 if soundR l = false then ([], 1)
 else if i < 0 ∨ x.first ≠ r.first ∨ x.last ≠ r.last then ([], 4)
 else if ownedB r = false then ([], 1)
 else (l.set i.toNat r, 0)
structure TS where
 events : List Event
 keys : List (Str × Known)
abbrev Tab := List (Str × TS)
def versionT (T : Tab) (n : Str) : Int := match getA n T with | some s => s.events.length | none => 0
def zeroStamp : Stamp := ⟨0, 0, 0⟩
def zeroKnown : Known := ⟨⟨#[]⟩, 0, zeroStamp⟩
def knownT (T : Tab) (n k : Str) : Known × Bool :=
 match getA n T with
 | some s => (match getA k s.keys with | some x => (x, true) | none => (zeroKnown, false))
 | none => (zeroKnown, false)
def alikeB (l : List Event) : Bool := match l with | [] => true | e :: _ => l.all fun x => decide (x.stream = e.stream) && (decide (x.stamp = e.stamp) && eventB x)
def goesFrom : List Event → Int → Int → Bool
 | [], _, _ => true
 | e :: l, v, i => decide (e.version = v + 1 + i) && goesFrom l v (i + 1)
def goesB (l : List Event) (v : Int) : Bool := goesFrom l v 0
def addKey (k : Str) (e : Event) (m : List (Str × Known)) : List (Str × Known) :=
 if (getA k m).isNone ∧ k.toList ≠ [] then putA k ⟨k, e.version, e.stamp⟩ m else m
def appendT (k : Str) (l : List Event) (T : Tab) : Tab × Int :=
 match l with
 | [] => (T, 1)
 | e :: _ =>
   if alikeB l = false ∨ keyB k = false then (T, 1)
   else if goesB l (versionT T e.stream) = false then (T, 5)
   else
    let s := (getA e.stream T).getD ⟨[], []⟩
    (putA e.stream ⟨s.events ++ l, addKey k e s.keys⟩ T, 0)
def inR (r : Range) (n : Str) : Bool := r.has (hashS n)
def someT (T : Tab) (r : Range) : List Str := (sortS (T.map (·.1))).filter (inR r)
def streamOf (n : Str) (s : TS) : Stream := ⟨n, s.events, (sortS (s.keys.map (·.1))).map fun k => (getA k s.keys).getD zeroKnown⟩
def takeT (T : Tab) (r : Range) : List Stream := (someT T r).map fun n => streamOf n ((getA n T).getD ⟨[], []⟩)
def metK (l : List Known) (k : Str) : Nat := (l.filter fun x => decide (x.key = k)).length
def keysB (ev : List Event) : List Known → List Known → Bool
 | _, [] => true
 | l, k :: r => decide (metK l k.key = 0) && (decide (k.first ≤ ev.length) && (decide ((ev.map Event.stamp).getD (k.first - 1).toNat zeroStamp = k.stamp) && keysB ev (l ++ [k]) r))
def wholeB (s : Stream) : Bool := streamB s && (decide (s.events ≠ []) && (goesB s.events 0 && keysB s.events [] s.keys))
def metS (l : List Stream) (n : Str) : Nat := (l.filter fun x => decide (x.name = n)).length
def okPut : List Stream → List Stream → Bool
 | _, [] => true
 | l, s :: r => decide (metS l s.name = 0) && (wholeB s && okPut (l ++ [s]) r)
def keysOf (l : List Known) : List (Str × Known) := l.foldl (fun m k => putA k.key k m) []
def putAll (l : List Stream) (T : Tab) : Tab := l.foldl (fun T s => putA s.name ⟨s.events, keysOf s.keys⟩ T) T
def putT (l : List Stream) (T : Tab) : Tab × Int := if okPut [] l then (putAll l T, 0) else (T, 1)
def dropT (T : Tab) (r : Range) : Tab := (someT T r).foldl (fun T n => delA n T) T
def allHashes : Range := ⟨0, 4294967295, 0, 0⟩
def freshT (T : Tab) : Tab := (putT (takeT T allHashes) []).1
structure Held where
 tx : Tx
 batch : Batch
 stamp : Stamp
 firsts : List Int
structure Outcome where
 tx : Tx
 yes : Bool
 stamp : Stamp
 nodes : List Int
structure St where
 self : Int
 nodes : Int
 life : Int
 ceiling : Int
 ring : List Range
 table : Tab
 held : List (Tx × Held)
 outcomes : List (Tx × Outcome)
 decided : List (Tx × Int)
 frozen : List Rec
 log : List Event
def newS (self nodes : Int) : Option St := if nodes < 1 ∨ 5 < nodes ∨ self < 1 ∨ nodes < self then none else some ⟨self, nodes, 0, 0, (newR nodes).1, [], [], [], [], [], []⟩
def servesS (s : St) (n : Str) : Bool := (ofR s.ring n).2 && decide ((ofR s.ring n).1.owner = s.self)
def busyS (s : St) (n : Str) : Bool := s.frozen.any (fun f => f.range.has (hashS n)) || s.held.any (fun x => x.2.batch.puts.any fun p => decide (p.stream = n))
def knownL (T : Tab) (k : Str) : List Put → List Int × Known × Bool → List Int × Known × Bool
 | [], a => a
 | p :: r, (f, x, u) =>
   let q := knownT T p.stream k
   if q.2 then knownL T k r (f ++ [q.1.first], (if f.length = 0 then q.1 else x), u || decide (q.1.stamp ≠ (if f.length = 0 then q.1 else x).stamp))
   else knownL T k r (f, x, u)
def knownS (s : St) (b : Batch) : List Int × Known × Int :=
 if b.key.toList = [] then ([], zeroKnown, 0)
 else
  let q := knownL s.table b.key b.puts ([], zeroKnown, false)
  if q.1.length = 0 then ([], zeroKnown, 0)
  else if q.1.length < b.puts.length ∨ q.2.2 = true then ([], zeroKnown, 1)
  else (q.1, q.2.1, 4)
def mayP (s : St) : List Put → Int
 | [] => 0
 | p :: r => if servesS s p.stream = false then 8 else if busyS s p.stream then 11 else mayP s r
def mayV (T : Tab) : List Put → List Int → List Int × Known × Int
 | [], f => (f, zeroKnown, 0)
 | p :: r, f => if p.expect ≠ -1 ∧ p.expect ≠ versionT T p.stream then ([], zeroKnown, 5) else mayV T r (f ++ [versionT T p.stream + 1])
def mayS (s : St) (b : Batch) : List Int × Known × Int :=
 if checkB b ≠ 0 then ([], zeroKnown, checkB b)
 else if mayP s b.puts ≠ 0 then ([], zeroKnown, mayP s b.puts)
 else if (knownS s b).2.2 ≠ 0 then knownS s b
 else mayV s.table b.puts []
def makeP (p : Put) (first step : Int) (st : Stamp) (index : Int) : List Str → Nat → Nat → List Event
 | [], _, _ => []
 | d :: r, k, n => ⟨p.stream, first + step * k, d, st, index + n⟩ :: makeP p first step st index r (k + 1) (n + 1)
def makeF : List Put → List Int → Stamp → Int → Nat → List Event
 | [], _, _, _, _ => []
 | p :: r, f, st, index, n => makeP p (f.headD 0) (if f = [] then 0 else 1) st index p.data 0 n ++ makeF r f.tail st index (n + p.data.length)
def makeB (b : Batch) (firsts : List Int) (st : Stamp) (index : Int) : List Event := makeF b.puts firsts st index 0
def putP (k : Str) : List Put → List Event → Tab → Tab
 | [], _, T => T
 | p :: r, l, T => putP k r (l.drop p.data.length) (appendT k (l.take p.data.length) T).1
def putS (s : St) (b : Batch) (firsts : List Int) (st : Stamp) : St :=
 { s with log := s.log ++ makeB b firsts st 0, table := putP b.key b.puts (makeB b firsts st 0) (freshT s.table) }
def commitS (s : St) (r : Rec) : St × Int := if (mayS s r.batch).2.2 = 0 then (putS s r.batch (mayS s r.batch).1 r.stamp, 0) else (s, (mayS s r.batch).2.2)
def prepareS (s : St) (r : Rec) : St × Int :=
 if (getA r.tx s.held).isSome then (s, 11)
 else if 0 < (getA r.tx s.decided).getD 0 then (s, 1)
 else if (mayS s r.batch).2.2 = 0 then ({ s with held := putA r.tx ⟨r.tx, r.batch, r.stamp, (mayS s r.batch).1⟩ s.held }, 0)
 else (s, (mayS s r.batch).2.2)
def decideS (s : St) (r : Rec) : St × Int :=
 match getA r.tx s.held with
 | none => (s, 4)
 | some h =>
   let s1 := { s with held := delA r.tx s.held, decided := putA r.tx 1 s.decided }
   (if r.yes then putS s1 h.batch h.firsts r.stamp else s1, 0)
def outcomeS (s : St) (r : Rec) : St × Int :=
 if (getA r.tx s.outcomes).isSome then (s, 11)
 else if r.nodes.any (fun n => decide (n < 1) || decide (5 < n)) then (s, 1)
 else ({ s with outcomes := putA r.tx ⟨r.tx, r.yes, r.stamp, r.nodes⟩ s.outcomes }, 0)
def forgetS (s : St) (r : Rec) : St × Int := if (getA r.tx s.outcomes).isNone then (s, 4) else ({ s with outcomes := delA r.tx s.outcomes }, 0)
def icedS (s : St) (h : Int) : Int := idxI (fun f : Rec => f.range.has h) s.frozen
def splitS (s : St) (r : Rec) : St × Int :=
 if (findR s.ring r.n).2 = false ∨ (findR s.ring r.n).1.owner ≠ s.self then (s, 8)
 else if 0 ≤ icedS s r.n ∨ 64 ≤ s.ring.length then (s, 11)
 else if (splitR s.ring r.n).2 = 0 then ({ s with ring := (splitR s.ring r.n).1 }, 0) else (s, (splitR s.ring r.n).2)
def lockedS (s : St) (r : Range) : Bool := s.held.any fun x => x.2.batch.puts.any fun p => r.has (hashS p.stream)
def freezeS (s : St) (r : Rec) : St × Int :=
 if r.range ∉ s.ring ∨ r.range.owner ≠ s.self then (s, 8)
 else if 0 ≤ icedS s r.range.first ∨ lockedS s r.range = true then (s, 11)
 else if r.to < 1 ∨ s.nodes < r.to ∨ r.to = s.self then (s, 1)
 else ({ s with frozen := s.frozen ++ [r] }, 0)
def spanB (r : Range) : Bool := decide (r.first ≤ r.last) && (decide (r.last ≤ 4294967295) && (decide (1 ≤ r.epoch) && decide (r.epoch ≤ 1099511627776)))
def newerS (s : St) (r : Range) : Bool := decide (r.owner = s.self) && s.ring.all fun x => !(decide (r.first ≤ r.last) && (decide (x.first ≤ r.last) && (decide (r.first ≤ x.last) && (decide (x.owner = s.self) || decide (r.epoch ≤ x.epoch)))))
def aroundX (r x : Range) : List Range :=
 let low : Range := { x with last := min x.last (r.first - 1) }
 let high : Range := { x with first := max x.first (r.last + 1) }
 (if low.first ≤ low.last then [low] else []) ++ ((if x.first ≤ r.first ∧ r.first ≤ x.last then [r] else []) ++ (if high.first ≤ high.last then [high] else []))
def aroundR (l : List Range) (r : Range) : List Range := l.flatMap (aroundX r)
def installS (s : St) (r : Rec) : St × Int :=
 if newerS s r.range = false then (s, 8)
 else if spanB r.range = false ∨ (r.streams.any fun x => !r.range.has (hashS x.name)) = true ∨ (putT r.streams []).2 ≠ 0 then (s, 1)
 else if 64 < (aroundR s.ring r.range).length then (s, 11)
 else ({ s with ring := aroundR s.ring r.range, table := (putT r.streams (dropT (freshT s.table) r.range)).1 }, (putT r.streams (dropT (freshT s.table) r.range)).2)
def releaseS (s : St) (r : Rec) : St × Int :=
 let i := idxI (fun f : Rec => decide (f.range.first = r.range.first) && decide (f.range.last = r.range.last)) s.frozen
 if i < 0 then (s, 4)
 else if r.range.owner = s.self ∨ r.range.owner < 1 ∨ s.nodes < r.range.owner ∨ r.range.epoch ≤ ((s.frozen.map Rec.range).getD i.toNat zeroRange).epoch then (s, 1)
 else if (setR s.ring r.range).2 ≠ 0 then (s, (setR s.ring r.range).2)
 else ({ s with ring := (setR s.ring r.range).1, frozen := s.frozen.eraseIdx i.toNat, table := dropT (freshT s.table) r.range }, 0)
end Go.Proofs.YtcmjgghkmdbphaaGreatDoor
namespace Go.Proofs.YtcmjgghkmdbphaaGreatDoor
open Go.RowKit
section
variable {κ β γ : Type} [DecidableEq κ]
theorem assocOf_eq (k : κ) (l : List (κ × Value)) : assocOf k l = getA k l := by
 induction l with
 | nil => rfl
 | cons p l ih => simp only [assocOf, getA, ih]
theorem assocPut_eq (k : κ) (v : Value) (l : List (κ × Value)) : assocPut k v l = putA k v l := by
 induction l with
 | nil => rfl
 | cons p l ih => simp only [assocPut, putA, ih]
theorem assocDel_eq (k : κ) (l : List (κ × Value)) : assocDel k l = delA k l := by
 induction l with
 | nil => rfl
 | cons p l ih => simp only [assocDel, delA, ih]
theorem getA_map (f : β → γ) (k : κ) (l : List (κ × β)) : getA k (l.map fun p => (p.1, f p.2)) = (getA k l).map f := by
 induction l with
 | nil => rfl
 | cons p l ih => simp only [List.map_cons, getA, ih]; split <;> rfl
theorem putA_map (f : β → γ) (k : κ) (v : β) (l : List (κ × β)) : putA k (f v) (l.map fun p => (p.1, f p.2)) = (putA k v l).map fun p => (p.1, f p.2) := by
 induction l with
 | nil => rfl
 | cons p l ih => simp only [List.map_cons, putA, ih]; split <;> rfl
theorem delA_map (f : β → γ) (k : κ) (l : List (κ × β)) : delA k (l.map fun p => (p.1, f p.2)) = (delA k l).map fun p => (p.1, f p.2) := by
 induction l with
 | nil => rfl
 | cons p l ih => simp only [List.map_cons, delA, ih]; split <;> rfl
theorem getA_mem {k : κ} {v : β} {l : List (κ × β)} (h : getA k l = some v) : (k, v) ∈ l := by
 induction l with
 | nil => cases h
 | cons p l ih =>
   simp only [getA] at h
   split at h
   ·rename_i e; cases h; subst e; simp
   ·exact List.mem_cons_of_mem _ (ih h)
theorem getA_none {k : κ} {l : List (κ × β)} : getA k l = none ↔ k ∉ l.map (·.1) := by
 induction l with
 | nil => simp [getA]
 | cons p l ih =>
   simp only [getA, List.map_cons, List.mem_cons, not_or]
   split
   ·rename_i e; simp [e]
   ·rename_i e; simp [e, ih]
theorem getA_of_mem {k : κ} {v : β} {l : List (κ × β)} (hn : (l.map (·.1)).Nodup) (h : (k, v) ∈ l) : getA k l = some v := by
 induction l with
 | nil => cases h
 | cons p l ih =>
   simp only [List.map_cons, List.nodup_cons] at hn
   simp only [getA]
   rcases List.mem_cons.1 h with e | h
   ·subst e; simp
   ·have : k ≠ p.1 := fun e => hn.1 (e ▸ List.mem_map.2 ⟨_, h, rfl⟩)
    rw [if_neg this]; exact ih hn.2 h
theorem getA_put (k x : κ) (v : β) (l : List (κ × β)) : getA x (putA k v l) = if x = k then some v else getA x l := by
 induction l with
 | nil => simp only [putA, getA]
 | cons p l ih =>
   simp only [putA]
   by_cases h : k = p.1
   ·rw [if_pos h]
    simp only [getA]
    by_cases hx : x = k
    ·rw [if_pos (hx.trans h), if_pos hx]
    ·rw [if_neg (fun e => hx (e.trans h.symm)), if_neg hx, if_neg (fun e => hx (e.trans h.symm))]
   ·rw [if_neg h]
    simp only [getA]
    by_cases hx : x = p.1
    ·rw [if_pos hx, if_pos hx, if_neg (fun e => h (e.symm.trans hx))]
    ·rw [if_neg hx, if_neg hx, ih]
theorem putA_mem {k : κ} {v : β} {l : List (κ × β)} {p : κ × β} (h : p ∈ putA k v l) : p = (k, v) ∨ (p ∈ l ∧ p.1 ≠ k) ∨ p ∈ l := by
 induction l with
 | nil => simp [putA] at h; exact .inl h
 | cons q l ih =>
   simp only [putA] at h
   split at h
   ·rename_i e
    rcases List.mem_cons.1 h with h | h
    ·left; rw [h, e]
    ·exact .inr (.inr (List.mem_cons_of_mem _ h))
   ·rename_i e
    rcases List.mem_cons.1 h with h | h
    ·subst h; exact .inr (.inr (by simp))
    ·rcases ih h with h | h | h
     ·exact .inl h
     ·exact .inr (.inr (List.mem_cons_of_mem _ h.1))
     ·exact .inr (.inr (List.mem_cons_of_mem _ h))
theorem putA_fst (k : κ) (v : β) (l : List (κ × β)) : (putA k v l).map (·.1) = if k ∈ l.map (·.1) then l.map (·.1) else l.map (·.1) ++ [k] := by
 induction l with
 | nil => simp [putA]
 | cons q l ih =>
   simp only [putA]
   by_cases h : k = q.1
   ·rw [if_pos h]; simp [h]
   ·rw [if_neg h, List.map_cons, ih]
    by_cases hk : k ∈ l.map (·.1)
    ·simp only [if_pos hk, List.map_cons, List.mem_cons, h, false_or]
    ·simp only [if_neg hk, List.map_cons, List.mem_cons, h, false_or, List.cons_append]
theorem putA_nodup {k : κ} {v : β} {l : List (κ × β)} (h : (l.map (·.1)).Nodup) : ((putA k v l).map (·.1)).Nodup := by
 rw [putA_fst]
 split
 ·exact h
 ·rename_i hk
  rw [List.nodup_append]
  refine ⟨h, by simp, ?_⟩
  rintro a ha b hb rfl
  simp at hb; subst hb; exact hk ha
theorem delA_sub (k : κ) (l : List (κ × β)) : (delA k l).Sublist l := by
 induction l with
 | nil => exact List.Sublist.slnil
 | cons q l ih =>
   simp only [delA]
   split
   ·exact List.sublist_cons_self _ _
   ·exact ih.cons_cons _
theorem delA_nodup {k : κ} {l : List (κ × β)} (h : (l.map (·.1)).Nodup) : ((delA k l).map (·.1)).Nodup := h.sublist ((delA_sub k l).map _)
theorem getA_del {k x : κ} {l : List (κ × β)} (h : (l.map (·.1)).Nodup) : getA x (delA k l) = if x = k then none else getA x l := by
 induction l with
 | nil => simp [delA, getA]
 | cons q l ih =>
   simp only [List.map_cons, List.nodup_cons] at h
   simp only [delA]
   by_cases hk : k = q.1
   ·rw [if_pos hk]
    by_cases hx : x = k
    ·rw [if_pos hx]; exact getA_none.2 (by rw [hx, hk]; exact h.1)
    ·rw [if_neg hx]; simp only [getA]; rw [if_neg (fun e => hx (e.trans hk.symm))]
   ·rw [if_neg hk]
    simp only [getA]
    by_cases hx : x = q.1
    ·rw [if_pos hx, if_pos hx, if_neg (fun e => hk (e.symm.trans hx))]
    ·rw [if_neg hx, if_neg hx, ih h.2]
end
def Rep.Plain {α : Type} (R : Rep α) : Prop := ∀ (w w' : World) (P Q : Nat → Prop) (cs : List Value) (a : α), R.rep w P cs a → R.rep w' Q cs a
theorem event_plain : EventR.Plain := fun _ _ _ _ _ _ h => event_rep.2 (event_rep.1 h)
theorem known_plain : KnownR.Plain := fun _ _ _ _ _ _ h => known_rep.2 (known_rep.1 h)
theorem range_plain : RangeR.Plain := fun _ _ _ _ _ _ h => range_rep.2 (range_rep.1 h)
section
variable {α : Type} {R : Rep α} {w w' : World} {base e : Nat} {S : Nat → Prop} {v : Value} {l : List α}
theorem Rep.flat.plain (hp : R.Plain) {xs : List Value} {P Q : Nat → Prop} (h : R.flat w P xs l) : R.flat w' Q xs l := by
 obtain ⟨c, e, n, f⟩ := h
 exact ⟨c, e, n, fun i cs a h1 h2 => hp _ _ _ _ _ _ (f i cs a h1 h2)⟩
theorem Rep.Own.plain (hp : R.Plain) {S' : Nat → Prop} (h : R.Own w base e S v l) : R.Own w base e S' v l := by
 obtain ⟨xs, h1, h2⟩ := h
 exact ⟨xs, h1, h2.plain hp⟩
theorem Rep.Own.zero (h : R.Own w base e S v l) : R.Own w 0 e S v l := by
 obtain ⟨xs, h1, h2⟩ := h
 exact ⟨xs, h1.base_ fun _ _ => Nat.zero_le _, h2⟩
theorem Rep.Own.same' (hp : R.Plain) {P : Nat → Prop} (h : R.Own w base e S v l) (hs : Same P w w') (hb : ∀ g, v.ownBlock = some g → P g) : R.Own w' base e S v l := by
 obtain ⟨xs, k1, k2⟩ := h
 refine ⟨xs, ⟨k1.1, ?_⟩, k2.plain hp⟩
 rcases k1.2 with hn | ⟨g, cap, cur, hv, hbg, hg, rest⟩
 ·exact .inl hn
 ·exact .inr ⟨g, cap, cur, hv, hbg, (hs g (hb g (by rw [hv]; rfl)) (Array.getElem?_eq_some_iff.1 hg).1).trans hg, rest⟩
theorem Rep.Own.row' (hp : R.Plain) {A : Option Addr} {n c : Nat} {P : Nat → Prop} (h : R.Own w base e S (.slice A n c) l) (hP : ∀ g, (Value.slice A n c).ownBlock = some g → P g) : R.Row w P A l := fun hl => by
 have h' : R.Own w base e (fun _ => True) (.slice A n c) l := h.plain hp
 obtain ⟨b, o, rfl, _, hb, hc⟩ := h'.row (fun _ _ => trivial) hl
 refine ⟨b, o, rfl, hP b rfl, hb, fun i a hi => ?_⟩
 obtain ⟨cs, hr, hcs⟩ := hc i a hi
 exact ⟨cs, hp _ _ _ _ _ _ hr, hcs⟩
end
end Go.Proofs.YtcmjgghkmdbphaaGreatDoor
namespace Go.Proofs.YtcmjgghkmdbphaaGreatDoor
open Go.RowKit
abbrev strE : Str → Value := fun s => .string s
def txE (t : Tx) : Value := .agg #[.int .i64 t.node, .int .i64 t.life, .int .i64 t.num]
def ptrV (b : Nat) : Value := .pointer (some ⟨b, 0, none⟩)
structure SB where
 b : Nat
 ev : Value
 km : Nat
structure SB.In (P : Nat → Prop) (s : SB) : Prop where
 b : P s.b
 km : P s.km
 ev : ∀ g, s.ev.ownBlock = some g → P g
structure SB.Apart (s s' : SB) : Prop where
 b : s.b ≠ s'.b
 km : s.km ≠ s'.km
 ev : ∀ g, s.ev.ownBlock = some g → s'.ev.ownBlock ≠ some g
structure TSAt (w : World) (s : SB) (ts : TS) : Prop where
 blk : Blk w s.b 287 [s.ev, .map (some s.km)]
 ev : EventR.Own w 0 202 (fun _ => False) s.ev ts.events
 km : MapAt strE w s.km (ts.keys.map fun p => (p.1, p.2.val))
 nd : (ts.keys.map (·.1)).Nodup
 fit : ∀ p ∈ ts.keys, p.2.fit ∧ sfit p.1
abbrev TabA := List (Str × (TS × SB))
def TabA.tab (TA : TabA) : Tab := TA.map fun p => (p.1, p.2.1)
def TabA.ptrs (TA : TabA) : List (Str × Value) := TA.map fun p => (p.1, ptrV p.2.2.b)
structure StrsAt (w : World) (P : Nat → Prop) (m : Nat) (TA : TabA) : Prop where
 map : MapAt strE w m TA.ptrs
 nd : (TA.map (·.1)).Nodup
 each : ∀ p ∈ TA, TSAt w p.2.2 p.2.1 ∧ p.2.2.km ≠ m ∧ p.2.2.In P ∧ sfit p.1
 apart : TA.Pairwise fun p q => p.2.2.Apart q.2.2
def TabAt (w : World) (P : Nat → Prop) (tb : Nat) (T : Tab) : Prop :=
 P tb ∧ ((Blk w tb 252 [.map none] ∧ T = []) ∨ ∃ m TA, Blk w tb 252 [.map (some m)] ∧ P m ∧ StrsAt w P m TA ∧ T = TabA.tab TA)
section
variable {w w' : World} {P Q : Nat → Prop}
theorem SB.Apart.symm {s s' : SB} (h : s.Apart s') : s'.Apart s := ⟨h.b.symm, h.km.symm, fun g hg hn => h.ev g hn hg⟩
theorem SB.In.mono {s : SB} (h : s.In P) (hs : ∀ g, P g → Q g) : s.In Q := ⟨hs _ h.b, hs _ h.km, fun g hg => hs _ (h.ev g hg)⟩
theorem TSAt.same {s : SB} {ts : TS} (h : TSAt w s ts) (hi : s.In P) (hs : Same P w w') : TSAt w' s ts :=
 ⟨h.blk.same hs hi.b, h.ev.same' event_plain hs hi.ev, h.km.same hs hi.km, h.nd, h.fit⟩
theorem StrsAt.same {m : Nat} {TA : TabA} (h : StrsAt w P m TA) (hm : P m) (hs : Same P w w') : StrsAt w' P m TA :=
 ⟨h.map.same hs hm, h.nd, fun p hp => ⟨(h.each p hp).1.same (h.each p hp).2.2.1 hs, (h.each p hp).2⟩, h.apart⟩
theorem StrsAt.mono {m : Nat} {TA : TabA} (h : StrsAt w P m TA) (hs : ∀ g, P g → Q g) : StrsAt w Q m TA :=
 ⟨h.map, h.nd, fun p hp => ⟨(h.each p hp).1, (h.each p hp).2.1, (h.each p hp).2.2.1.mono hs, (h.each p hp).2.2.2⟩, h.apart⟩
theorem TabAt.same {tb : Nat} {T : Tab} (h : TabAt w P tb T) (hs : Same P w w') : TabAt w' P tb T := by
 obtain ⟨h1, ⟨hb, e⟩ | ⟨m, TA, hb, hm, hA, e⟩⟩ := h
 ·exact ⟨h1, .inl ⟨hb.same hs h1, e⟩⟩
 ·exact ⟨h1, .inr ⟨m, TA, hb.same hs h1, hm, hA.same hm hs, e⟩⟩
theorem TabAt.mono {tb : Nat} {T : Tab} (h : TabAt w P tb T) (hs : ∀ g, P g → Q g) : TabAt w Q tb T := by
 obtain ⟨h1, ⟨hb, e⟩ | ⟨m, TA, hb, hm, hA, e⟩⟩ := h
 ·exact ⟨hs _ h1, .inl ⟨hb, e⟩⟩
 ·exact ⟨hs _ h1, .inr ⟨m, TA, hb, hs _ hm, hA.mono hs, e⟩⟩
theorem TabAt.ext {tb : Nat} {T : Tab} (h : TabAt w P tb T) (hb : Below w.heap.size w w') : TabAt w' P tb T := h.same (js hb)
theorem TabAt.lt {tb : Nat} {T : Tab} (h : TabAt w P tb T) : tb < w.heap.size := by
 obtain ⟨h1, ⟨hb, e⟩ | ⟨m, TA, hb, hm, hA, e⟩⟩ := h
 ·exact hb.lt
 ·exact hb.lt
theorem tab_get (TA : TabA) (n : Str) : getA n TA.tab = (getA n TA).map (·.1) := getA_map (fun q : TS × SB => q.1) n TA
theorem ptrs_get (TA : TabA) (n : Str) : getA n TA.ptrs = (getA n TA).map fun q => ptrV q.2.b := getA_map (fun q : TS × SB => ptrV q.2.b) n TA
theorem tab_fst (TA : TabA) : TA.tab.map (·.1) = TA.map (·.1) := by simp [TabA.tab]
end
section
variable {κ β : Type} {enc : κ → Value} {R : Rep β} {V : List Value → Value} {w w' : World} {P Q : Nat → Prop} {v : Value} {l : List (κ × β)}
def MpAt (enc : κ → Value) (R : Rep β) (V : List Value → Value) (w : World) (P : Nat → Prop) (v : Value) (l : List (κ × β)) : Prop :=
 (l.map (·.1)).Nodup ∧ ((v = .map none ∧ l = []) ∨ ∃ (m : Nat) (LA : List (κ × (β × List Value))), v = .map (some m) ∧ P m ∧ MapAt enc w m (LA.map fun p => (p.1, V p.2.2)) ∧ (∀ p ∈ LA, R.rep w P p.2.2 p.2.1) ∧ l = LA.map fun p => (p.1, p.2.1))
theorem MpAt.same (h : MpAt enc R V w P v l) (hs : Same P w w') : MpAt enc R V w' P v l := by
 obtain ⟨hn, h | ⟨m, LA, e, hm, hM, hr, hl⟩⟩ := h
 ·exact ⟨hn, .inl h⟩
 ·exact ⟨hn, .inr ⟨m, LA, e, hm, hM.same hs hm, fun p hp => R.same (hr p hp) hs, hl⟩⟩
theorem MpAt.mono (h : MpAt enc R V w P v l) (hs : ∀ g, P g → g < w.heap.size → Q g) : MpAt enc R V w Q v l := by
 obtain ⟨hn, h | ⟨m, LA, e, hm, hM, hr, hl⟩⟩ := h
 ·exact ⟨hn, .inl h⟩
 ·exact ⟨hn, .inr ⟨m, LA, e, hs m hm hM.lt, hM, fun p hp => R.mono (hr p hp) hs, hl⟩⟩
theorem MpAt.nil_ : MpAt enc R V w P (.map none) [] := ⟨by simp, .inl ⟨rfl, rfl⟩⟩
end
def HeldR : Rep Held := (TxR.cat (BatchR.cat (StampR.cat IntR.sl))).via fun h => (h.tx, h.batch, h.stamp, h.firsts)
def OutcomeR : Rep Outcome := (TxR.cat (BoolR.cat (StampR.cat IntR.sl))).via fun h => (h.tx, h.yes, h.stamp, h.nodes)
structure SV where
 ring : Value
 tb : Nat
 held : Value
 outcomes : Value
 decided : Value
 frozen : Value
 log : Value
def St.cells (s : St) (v : SV) : List Value := [.int .i64 s.self, .int .i64 s.nodes, .int .i64 s.life, .int .i64 s.ceiling, v.ring, ptrV v.tb, v.held, v.outcomes, v.decided, v.frozen, v.log]
structure StIn (w : World) (P : Nat → Prop) (s : St) (v : SV) : Prop where
 fit : i64 s.self ∧ i64 s.nodes ∧ i64 s.life ∧ i64 s.ceiling
 ring : RangeR.sl.rep w P [v.ring] s.ring
 table : TabAt w P v.tb s.table
 held : MpAt txE HeldR aggV w P v.held s.held
 outcomes : MpAt txE OutcomeR aggV w P v.outcomes s.outcomes
 decided : MpAt txE IntR oneV w P v.decided s.decided
 frozen : RecR.sl.rep w P [v.frozen] s.frozen
 log : EventR.sl.rep w P [v.log] s.log
def StAt (w : World) (P : Nat → Prop) (g : Nat) (s : St) : Prop := ∃ v, Blk w g 176 (s.cells v) ∧ StIn w P s v
section
variable {w w' : World} {P Q : Nat → Prop} {s : St} {v : SV}
theorem StIn.same (h : StIn w P s v) (hs : Same P w w') : StIn w' P s v :=
 ⟨h.fit, RangeR.sl.same h.ring hs, h.table.same hs, h.held.same hs, h.outcomes.same hs, h.decided.same hs, RecR.sl.same h.frozen hs, EventR.sl.same h.log hs⟩
theorem StIn.mono (h : StIn w P s v) (hs : ∀ g, P g → Q g) : StIn w Q s v :=
 ⟨h.fit, RangeR.sl.mono h.ring fun g k _ => hs g k, h.table.mono hs, h.held.mono fun g k _ => hs g k, h.outcomes.mono fun g k _ => hs g k, h.decided.mono fun g k _ => hs g k, RecR.sl.mono h.frozen fun g k _ => hs g k, EventR.sl.mono h.log fun g k _ => hs g k⟩
theorem StAt.lt {g : Nat} (h : StAt w P g s) : g < w.heap.size := by
 obtain ⟨v, h, _⟩ := h
 exact h.lt
end
end Go.Proofs.YtcmjgghkmdbphaaGreatDoor
namespace Go.Proofs
open Go.Shelf
def Tryz.keysS_ren : Go.Shelf.Ren := ⟨fun | 7 => 308 | 10 => 322 | n => n, fun | 23 => 250 | 26 => 9 | 3 => 283 | 28 => 294 | 0 => 0 | 27 => 293 | 33 => 72 | 4 => 4 | n => n, fun | n => n⟩
theorem Tryz.keysS : Go.Proofs.SlLaysZ.n7 Tryz.prog Tryz.keysS_ren := {
 mixed := by kernel_rfl
 f7 := ⟨Tryz.f308.name, by decide, Tryz.func308.trans (congrArg some (by kernel_rfl))⟩
 f10 := ⟨Tryz.f322.name, by decide, Tryz.func322.trans (congrArg some (by kernel_rfl))⟩
 t0 := Tryz.underlying0
 a0 := Tryz.isAgg0
 z0 := Tryz.sizeOf0
 v0 := Tryz.zeroValue0
 t4 := Tryz.underlying4
 a4 := Tryz.isAgg4
 z4 := Tryz.sizeOf4
 v4 := Tryz.zeroValue4
 t23 := Tryz.underlying250
 a23 := Tryz.isAgg250
 z23 := Tryz.sizeOf250
 v23 := Tryz.zeroValue250
 t26 := Tryz.underlying9
 a26 := Tryz.isAgg9
 z26 := Tryz.sizeOf9
 v26 := Tryz.zeroValue9
 t27 := Tryz.underlying293
 a27 := Tryz.isAgg293
 z27 := Tryz.sizeOf293
 v27 := Tryz.zeroValue293
 t28 := Tryz.underlying294
 a28 := Tryz.isAgg294
 z28 := Tryz.sizeOf294
 v28 := Tryz.zeroValue294
 t33 := Tryz.underlying72
 a33 := Tryz.isAgg72
 z33 := Tryz.sizeOf72
 v33 := Tryz.zeroValue72 }
def Tryz.keysK_ren : Go.Shelf.Ren := ⟨fun | 7 => 220 | 10 => 283 | n => n, fun | 23 => 285 | 26 => 9 | 3 => 49 | 28 => 294 | 0 => 0 | 27 => 293 | 33 => 72 | 4 => 4 | n => n, fun | n => n⟩
theorem Tryz.keysK : Go.Proofs.SlLaysZ.n7 Tryz.prog Tryz.keysK_ren := {
 mixed := by kernel_rfl
 f7 := ⟨Tryz.f220.name, by decide, Tryz.func220.trans (congrArg some (by kernel_rfl))⟩
 f10 := ⟨Tryz.f283.name, by decide, Tryz.func283.trans (congrArg some (by kernel_rfl))⟩
 t0 := Tryz.underlying0
 a0 := Tryz.isAgg0
 z0 := Tryz.sizeOf0
 v0 := Tryz.zeroValue0
 t4 := Tryz.underlying4
 a4 := Tryz.isAgg4
 z4 := Tryz.sizeOf4
 v4 := Tryz.zeroValue4
 t23 := Tryz.underlying285
 a23 := Tryz.isAgg285
 z23 := Tryz.sizeOf285
 v23 := Tryz.zeroValue285
 t26 := Tryz.underlying9
 a26 := Tryz.isAgg9
 z26 := Tryz.sizeOf9
 v26 := Tryz.zeroValue9
 t27 := Tryz.underlying293
 a27 := Tryz.isAgg293
 z27 := Tryz.sizeOf293
 v27 := Tryz.zeroValue293
 t28 := Tryz.underlying294
 a28 := Tryz.isAgg294
 z28 := Tryz.sizeOf294
 v28 := Tryz.zeroValue294
 t33 := Tryz.underlying72
 a33 := Tryz.isAgg72
 z33 := Tryz.sizeOf72
 v33 := Tryz.zeroValue72 }
def Tryz.sortedA_ren : Go.Shelf.Ren := ⟨fun | 6 => 219 | 8 => 281 | 9 => 282 | 11 => 309 | 13 => 286 | 12 => 310 | 23 => 319 | 24 => 320 | 14 => 323 | 15 => 324 | 16 => 325 | 17 => 326 | 18 => 327 | 19 => 328 | 20 => 329 | 21 => 330 | 22 => 331 | 25 => 338 | 26 => 333 | 27 => 334 | 28 => 339 | 29 => 340 | 30 => 341 | 31 => 343 | n => n, fun | 26 => 9 | 28 => 294 | 24 => 67 | 0 => 0 | 3 => 3 | 37 => 352 | 48 => 288 | 50 => 303 | 4 => 4 | 40 => 372 | 39 => 371 | 45 => 376 | 5 => 5 | 9 => 9 | 51 => 386 | 55 => 180 | 57 => 398 | 58 => 399 | 33 => 72 | n => n, fun | n => n⟩
theorem Tryz.sortedA : Go.Proofs.SlLaysZ.n6 Tryz.prog Tryz.sortedA_ren := {
 mixed := by kernel_rfl
 f6 := ⟨Tryz.f219.name, by decide, Tryz.func219.trans (congrArg some (by kernel_rfl))⟩
 f8 := ⟨Tryz.f281.name, by decide, Tryz.func281.trans (congrArg some (by kernel_rfl))⟩
 f11 := ⟨Tryz.f309.name, by decide, Tryz.func309.trans (congrArg some (by kernel_rfl))⟩
 t0 := Tryz.underlying0
 a0 := Tryz.isAgg0
 z0 := Tryz.sizeOf0
 v0 := Tryz.zeroValue0
 t24 := Tryz.underlying67
 a24 := Tryz.isAgg67
 z24 := Tryz.sizeOf67
 v24 := Tryz.zeroValue67
 t26 := Tryz.underlying9
 a26 := Tryz.isAgg9
 z26 := Tryz.sizeOf9
 v26 := Tryz.zeroValue9
 t28 := Tryz.underlying294
 a28 := Tryz.isAgg294
 z28 := Tryz.sizeOf294
 v28 := Tryz.zeroValue294
 i26 := by kernel_rfl }
def Tryz.sortA_ren : Go.Shelf.Ren := ⟨fun | 6 => 282 | 8 => 286 | 9 => 310 | 19 => 319 | 20 => 320 | 21 => 323 | 22 => 324 | 23 => 325 | 24 => 326 | 25 => 327 | 26 => 328 | 27 => 329 | 28 => 330 | 29 => 331 | 36 => 338 | 31 => 333 | 32 => 334 | 37 => 339 | 38 => 340 | 39 => 341 | 41 => 343 | n => n, fun | 27 => 67 | 29 => 9 | 3 => 3 | 32 => 352 | 26 => 67 | 0 => 0 | 44 => 288 | 46 => 303 | 4 => 4 | 36 => 372 | 35 => 371 | 41 => 376 | 5 => 5 | 9 => 9 | 53 => 386 | 57 => 180 | 63 => 398 | 64 => 399 | n => n, fun | n => n⟩
theorem Tryz.sortA : Go.Proofs.SlLaysM.n6 Tryz.prog Tryz.sortA_ren := {
 mixed := by kernel_rfl
 f6 := ⟨Tryz.f282.name, by decide, Tryz.func282.trans (congrArg some (by kernel_rfl))⟩
 f8 := Tryz.func286.trans (congrArg some (by kernel_rfl))
 f9 := ⟨Tryz.f310.name, by decide, Tryz.func310.trans (congrArg some (by kernel_rfl))⟩
 f19 := Tryz.func319.trans (congrArg some (by kernel_rfl))
 f20 := Tryz.func320.trans (congrArg some (by kernel_rfl))
 f21 := ⟨Tryz.f323.name, by decide, Tryz.func323.trans (congrArg some (by kernel_rfl))⟩
 f22 := ⟨Tryz.f324.name, by decide, Tryz.func324.trans (congrArg some (by kernel_rfl))⟩
 f23 := ⟨Tryz.f325.name, by decide, Tryz.func325.trans (congrArg some (by kernel_rfl))⟩
 f24 := ⟨Tryz.f326.name, by decide, Tryz.func326.trans (congrArg some (by kernel_rfl))⟩
 f25 := ⟨Tryz.f327.name, by decide, Tryz.func327.trans (congrArg some (by kernel_rfl))⟩
 f26 := ⟨Tryz.f328.name, by decide, Tryz.func328.trans (congrArg some (by kernel_rfl))⟩
 f27 := ⟨Tryz.f329.name, by decide, Tryz.func329.trans (congrArg some (by kernel_rfl))⟩
 f28 := ⟨Tryz.f330.name, by decide, Tryz.func330.trans (congrArg some (by kernel_rfl))⟩
 f29 := ⟨Tryz.f331.name, by decide, Tryz.func331.trans (congrArg some (by kernel_rfl))⟩
 f31 := Tryz.func333.trans (congrArg some (by kernel_rfl))
 f32 := Tryz.func334.trans (congrArg some (by kernel_rfl))
 f36 := ⟨Tryz.f338.name, by decide, Tryz.func338.trans (congrArg some (by kernel_rfl))⟩
 f37 := ⟨Tryz.f339.name, by decide, Tryz.func339.trans (congrArg some (by kernel_rfl))⟩
 f38 := ⟨Tryz.f340.name, by decide, Tryz.func340.trans (congrArg some (by kernel_rfl))⟩
 f39 := ⟨Tryz.f341.name, by decide, Tryz.func341.trans (congrArg some (by kernel_rfl))⟩
 f41 := ⟨Tryz.f343.name, by decide, Tryz.func343.trans (congrArg some (by kernel_rfl))⟩
 t0 := Tryz.underlying0
 a0 := Tryz.isAgg0
 z0 := Tryz.sizeOf0
 v0 := Tryz.zeroValue0
 t3 := Tryz.underlying3
 a3 := Tryz.isAgg3
 z3 := Tryz.sizeOf3
 v3 := Tryz.zeroValue3
 t4 := Tryz.underlying4
 a4 := Tryz.isAgg4
 z4 := Tryz.sizeOf4
 v4 := Tryz.zeroValue4
 t5 := Tryz.underlying5
 a5 := Tryz.isAgg5
 z5 := Tryz.sizeOf5
 v5 := Tryz.zeroValue5
 t9 := Tryz.underlying9
 a9 := Tryz.isAgg9
 z9 := Tryz.sizeOf9
 v9 := Tryz.zeroValue9
 t26 := Tryz.underlying67
 a26 := Tryz.isAgg67
 z26 := Tryz.sizeOf67
 v26 := Tryz.zeroValue67
 t27 := Tryz.underlying67
 a27 := Tryz.isAgg67
 z27 := Tryz.sizeOf67
 v27 := Tryz.zeroValue67
 t29 := Tryz.underlying9
 a29 := Tryz.isAgg9
 z29 := Tryz.sizeOf9
 v29 := Tryz.zeroValue9
 t32 := Tryz.underlying352
 a32 := Tryz.isAgg352
 z32 := Tryz.sizeOf352
 v32 := Tryz.zeroValue352
 t35 := Tryz.underlying371
 a35 := Tryz.isAgg371
 z35 := Tryz.sizeOf371
 v35 := Tryz.zeroValue371
 t36 := Tryz.underlying372
 a36 := Tryz.isAgg372
 z36 := Tryz.sizeOf372
 v36 := Tryz.zeroValue372
 t41 := Tryz.underlying376
 a41 := Tryz.isAgg376
 z41 := Tryz.sizeOf376
 v41 := Tryz.zeroValue376
 t44 := Tryz.underlying288
 a44 := Tryz.isAgg288
 z44 := Tryz.sizeOf288
 v44 := Tryz.zeroValue288
 t46 := Tryz.underlying303
 a46 := Tryz.isAgg303
 z46 := Tryz.sizeOf303
 v46 := Tryz.zeroValue303
 t53 := Tryz.underlying386
 a53 := Tryz.isAgg386
 z53 := Tryz.sizeOf386
 v53 := Tryz.zeroValue386
 t57 := Tryz.underlying180
 a57 := Tryz.isAgg180
 z57 := Tryz.sizeOf180
 v57 := Tryz.zeroValue180
 t63 := Tryz.underlying398
 a63 := Tryz.isAgg398
 z63 := Tryz.sizeOf398
 v63 := Tryz.zeroValue398
 t64 := Tryz.underlying399
 a64 := Tryz.isAgg399
 z64 := Tryz.sizeOf399
 v64 := Tryz.zeroValue399 }
end Go.Proofs
namespace Go.Proofs.YtcmjgghkmdbphaaGreatDoor
open Go.RowKit Go.ChangeMaps
theorem filter_erase {α β : Type} [DecidableEq β] (f : α → β) : ∀ (l : List α) (i : Nat) (x : α), (l.map f).Nodup → l[i]? = some x → l.filter (fun y => !decide (f y = f x)) = l.eraseIdx i
 | [], i, x, _, h => by simp at h
 | a :: l, 0, x, hn, h => by
   simp at h; subst h
   simp only [List.map_cons, List.nodup_cons] at hn
   simp only [List.eraseIdx_cons_zero]
   rw [List.filter_cons_of_neg (by simp), List.filter_eq_self]
   intro y hy
   have : f y ≠ f a := fun e => hn.1 (e ▸ List.mem_map.2 ⟨y, hy, rfl⟩)
   simp [this]
 | a :: l, i + 1, x, hn, h => by
   simp at h
   simp only [List.map_cons, List.nodup_cons] at hn
   have hx : x ∈ l := List.mem_of_getElem? h
   have : f a ≠ f x := fun e => hn.1 (e ▸ List.mem_map.2 ⟨x, hx, rfl⟩)
   rw [List.eraseIdx_cons_succ, List.filter_cons_of_pos (by simp [this]), filter_erase f l i x hn.2 h]
section
variable {κ : Type} {enc : κ → Value} {w w' : World} {m it : Nat} {ps left : List (κ × Value)} {P : Program}
def IterAt (enc : κ → Value) (w : World) (it m : Nat) (left : List (κ × Value)) : Prop :=
 ∃ (es : Array MapEntry) (clk since c0 : Nat) (seen : Array Nat), w.heap[m]? = some (.map es clk) ∧ w.heap[it]? = some (.mapIter (some m) since seen c0) ∧ (es.toList.map (·.born)).Nodup ∧
   (∀ x ∈ es.toList, x.born < since) ∧ since ≤ c0 ∧ since ≤ clk ∧ (leftOf es seen).toList.map (fun e => (e.key, e.val)) = left.map (fun p => (enc p.1, p.2))
theorem IterAt.block (h : IterAt enc w it m left) (h1 : w'.heap[m]? = w.heap[m]?) (h2 : w'.heap[it]? = w.heap[it]?) : IterAt enc w' it m left := by
 obtain ⟨es, clk, since, c0, seen, a, b, r⟩ := h
 exact ⟨es, clk, since, c0, seen, h1.trans a, h2.trans b, r⟩
theorem IterAt.lt (h : IterAt enc w it m left) : m < w.heap.size ∧ it < w.heap.size := by
 obtain ⟨es, clk, since, c0, seen, a, b, r⟩ := h
 exact ⟨(Array.getElem?_eq_some_iff.1 a).1, (Array.getElem?_eq_some_iff.1 b).1⟩
theorem IterAt.ext (h : IterAt enc w it m left) (hb : Below w.heap.size w w') : IterAt enc w' it m left := h.block (hb.block m h.lt.1) (hb.block it h.lt.2)
theorem run_range_at {t kt e : TypeId} (ht : P.underlying t = some (.map kt e)) (h : MapAt enc w m ps) :
 ∃ w', (Instr.range t (.map (some m))).run P w = .ok (.pointer (some ⟨w.heap.size, 0, none⟩)) w' ∧ IterAt enc w' w.heap.size m ps ∧ Below w.heap.size w w' ∧ w'.heap.size = w.heap.size + 1 := by
 obtain ⟨es, clk, hh, he, hp, hc⟩ := h
 refine ⟨_, run_range_map w t kt e m es clk ht hh, ⟨es, clk, clk, clk, #[], ?_, ?_, ?_, hc, Nat.le_refl _, Nat.le_refl _, ?_⟩, (jb _ _).al _, by simp⟩
 ·rw [heap_alloc_old w _ (Array.getElem?_eq_some_iff.1 hh).1]; exact hh
 ·exact heap_alloc_new w _
 ·exact hp.imp (fun h => Nat.ne_of_lt h)
 ·rw [← he]; congr 1; simp [leftOf]
theorem run_next_iter (ty : TypeId) (h : IterAt enc w it m left) :
 (left = [] ∧ (Instr.next (.pointer (some ⟨it, 0, none⟩)) false ty).run P w = .ok (.tuple #[.bool false]) w) ∨
 ∃ (i : Nat) (p : κ × Value) (w' : World), left[i]? = some p ∧ (Instr.next (.pointer (some ⟨it, 0, none⟩)) false ty).run P w = .ok (.tuple #[.bool true, enc p.1, p.2]) w' ∧ IterAt enc w' it m (left.eraseIdx i) ∧ Only (· = it) w w' ∧ w'.heap.size = w.heap.size ∧
   (∀ w'', w''.heap[m]? = w'.heap[m]? → w''.heap[it]? = w'.heap[it]? → (Instr.entry (.pointer (some ⟨it, 0, none⟩))).run P w'' = .ok (.tuple #[enc p.1, p.2]) w'') := by
 obtain ⟨es, clk, since, c0, seen, hm, hi, hn, ho, hs, hs2, hl⟩ := h
 rcases run_next_at (P := P) w ty it m since c0 seen es clk hi hm ho hs with ⟨h0, hr⟩ | ⟨e, he, w1, hw1, hr⟩
 ·left
  refine ⟨?_, hr⟩
  have : (leftOf es seen).toList = [] := by simpa using h0
  rw [this] at hl
  simpa using hl.symm
 ·right
  obtain ⟨i, hii⟩ := List.getElem?_of_mem he
  have hp := congrArg (·[i]?) hl
  simp only [List.getElem?_map, hii, Option.map_some] at hp
  obtain ⟨p, hpi, hpe⟩ := Option.map_eq_some_iff.1 hp.symm
  injection hpe with k1 k2
  have hwb : ∀ g : Nat, w1.heap[g]? = w.heap[g]? := fun g => by rcases hw1 with rfl | rfl <;> rfl
  have hmi : m ≠ it := by
   rintro rfl
   rw [hm] at hi; cases hi
  have hset : ∀ g : Nat, g ≠ it → (setBlock w1 it (.mapIter (some m) since (seen.push e.born) clk)).heap[g]? = w.heap[g]? := fun g hg => by
   rw [← hwb]; simp only [setBlock, Array.getElem?_setIfInBounds]; rw [if_neg (fun h => hg h.symm)]
  have hsz : w1.heap.size = w.heap.size := by rcases hw1 with rfl | rfl <;> rfl
  have hit : (setBlock w1 it (.mapIter (some m) since (seen.push e.born) clk)).heap[it]? = some (.mapIter (some m) since (seen.push e.born) clk) := by
   have := (Array.getElem?_eq_some_iff.1 hi).1
   simp [setBlock, hsz, this]
  have heL : e ∈ es.toList := by
   unfold leftOf at he; simp at he; simpa using he.1
  refine ⟨i, p, _, hpi, by rw [k1, k2]; exact hr, ⟨es, clk, since, clk, seen.push e.born, (hset m hmi).trans hm, hit, hn, ho, hs2, hs2, ?_⟩, ⟨?_, ?_, ?_, ?_, fun g _ hg => hset g hg⟩, by simp [setBlock, hsz], fun w'' h1 h2 => ?_⟩
  ·rw [map_erase, ← hl, ← map_erase]
   congr 1
   have hnl : ((leftOf es seen).toList.map (·.born)).Nodup := by
    unfold leftOf
    rw [Array.toList_filter]
    exact hn.sublist (List.Sublist.map _ (List.filter_sublist))
   rw [← filter_erase (·.born) _ i e hnl hii]
   unfold leftOf
   simp only [Array.toList_filter, List.filter_filter]
   apply List.filter_congr
   intro x _
   rw [Bool.eq_iff_iff]
   simp
   exact ⟨fun h => ⟨h.2, h.1⟩, fun h => ⟨h.2, h.1⟩⟩
  ·rcases hw1 with rfl | rfl <;> rfl
  ·rcases hw1 with rfl | rfl <;> rfl
  ·rcases hw1 with rfl | rfl <;> rfl
  ·simp [setBlock, hsz]
  ·rw [k1, k2]
   exact run_entry_at w'' it m since seen es clk e (h2.trans hit) (h1.trans ((hset m hmi).trans hm)) heL hn
variable {ops : Array Oper} {rest : List Oper} {o : Oper} {a : Act} {Q : Exit → Act → World → Prop}
theorem wpList_range_map (hg : o.guard = none) (mo : Operand) (t : TypeId) (hop : o.op = Op.range t mo) {kt e : TypeId} (ht : P.underlying t = some (.map kt e)) (hm : a.eval mo = .map (some m)) (h : MapAt enc w m ps)
 (hK : ∀ w', IterAt enc w' w.heap.size m ps → Below w.heap.size w w' → w'.heap.size = w.heap.size + 1 → wpList P ops Q rest (a.put o.dst (.pointer (some ⟨w.heap.size, 0, none⟩))) w') : wpList P ops Q (o :: rest) a w := by
 refine wpList_plain hg fun K' hK' => ?_
 obtain ⟨w', hrun, r1, r2, r3⟩ := run_range_at (P := P) ht h
 unfold Oper.wp
 simp [execOp, hop, hm, hrun, Result.andThen]
 exact hK' _ _ (hK w' r1 r2 r3)
theorem wpList_next_map (hg : o.guard = none) (ito : Operand) (hop : o.op = Op.next ito false) (hit : a.eval ito = .pointer (some ⟨it, 0, none⟩)) (h : IterAt enc w it m left)
 (hDone : left = [] → wpList P ops Q rest (a.put o.dst (.tuple #[.bool false])) w)
 (hMore : ∀ (i : Nat) (p : κ × Value) (w' : World), left[i]? = some p → IterAt enc w' it m (left.eraseIdx i) → Only (· = it) w w' → w'.heap.size = w.heap.size →
  (∀ w'', w''.heap[m]? = w'.heap[m]? → w''.heap[it]? = w'.heap[it]? → (Instr.entry (.pointer (some ⟨it, 0, none⟩))).run P w'' = .ok (.tuple #[enc p.1, p.2]) w'') → wpList P ops Q rest (a.put o.dst (.tuple #[.bool true, enc p.1, p.2])) w') : wpList P ops Q (o :: rest) a w := by
 refine wpList_plain hg fun K' hK' => ?_
 unfold Oper.wp
 rcases run_next_iter (P := P) o.type h with ⟨h0, hrun⟩ | ⟨i, p, w', hp, hrun, r1, r2, r3, r4⟩
 ·simp [execOp, hop, hit, hrun, Result.andThen]
  exact hK' _ _ (hDone h0)
 ·simp [execOp, hop, hit, hrun, Result.andThen]
  exact hK' _ _ (hMore i p w' hp r1 r2 r3 r4)
def leftLen (w : World) (it m : Nat) : Nat := match w.heap[it]?, w.heap[m]? with
 | some (.mapIter _ _ seen _), some (.map es _) => (leftOf es seen).size
 | _, _ => 0
theorem IterAt.len (h : IterAt enc w it m left) : leftLen w it m = left.length := by
 obtain ⟨es, clk, since, c0, seen, hm, hi, hn, ho, hs, hs2, hl⟩ := h
 unfold leftLen
 rw [hi, hm]
 have := congrArg List.length hl
 simpa using this
def IterNil (w : World) (it : Nat) : Prop := ∃ a s b, w.heap[it]? = some (.mapIter none a s b)
theorem wpList_range_nil (hg : o.guard = none) (mo : Operand) (t : TypeId) (hop : o.op = Op.range t mo) {kt e : TypeId} (ht : P.underlying t = some (.map kt e)) (hm : a.eval mo = .map none)
 (hK : ∀ w', IterNil w' w.heap.size → Below w.heap.size w w' → w'.heap.size = w.heap.size + 1 → wpList P ops Q rest (a.put o.dst (.pointer (some ⟨w.heap.size, 0, none⟩))) w') : wpList P ops Q (o :: rest) a w := by
 refine wpList_plain hg fun K' hK' => ?_
 have hrun := run_range_nilMap (P := P) w t kt e ht
 unfold Oper.wp
 simp [execOp, hop, hm, hrun, Result.andThen]
 exact hK' _ _ (hK _ ⟨_, _, _, heap_alloc_new w _⟩ ((jb _ _).al _) (by simp))
theorem wpList_next_nil (hg : o.guard = none) (ito : Operand) (hop : o.op = Op.next ito false) (hit : a.eval ito = .pointer (some ⟨it, 0, none⟩)) (h : IterNil w it)
 (hDone : wpList P ops Q rest (a.put o.dst (.tuple #[.bool false])) w) : wpList P ops Q (o :: rest) a w := by
 refine wpList_plain hg fun K' hK' => ?_
 obtain ⟨x, s, b, h⟩ := h
 have hrun : (Instr.next (.pointer (some ⟨it, 0, none⟩)) false o.type).run P w = .ok (.tuple #[.bool false]) w := by
  simp only [Instr.next, getObj, Sem.run_bind, Sem.run, h, Result.andThen]
  rfl
 unfold Oper.wp
 simp [execOp, hop, hit, hrun, Result.andThen]
 exact hK' _ _ hDone
end
end Go.Proofs.YtcmjgghkmdbphaaGreatDoor
namespace Go.Proofs.YtcmjgghkmdbphaaGreatDoor
open Go.RowKit
section
variable {κ : Type} [DecidableEq κ] {P : Program} {kt : TypeId} {enc : κ → Value} {w w' : World} {m : Nat} {ps : List (κ × Value)}
variable {ops : Array Oper} {rest : List Oper} {o : Oper} {a : Act} {Q : Exit → Act → World → Prop}
theorem wpList_lookup_two (r : Option Value) (K : KeyOk P kt enc) (hg : o.guard = none) (mo x : Operand) (t : TypeId) (hop : o.op = Op.lookup t mo x true) {e : TypeId}
 (ht : P.underlying t = some (.map kt e)) (hm : a.eval mo = .map (some m)) (h : MapAt enc w m ps) (k : κ) (hx : a.eval x = enc k) (hr : assocOf k ps = r) (z : Value) (hz : (zeroValue e).run P w = .ok z w)
 (hK : wpList P ops Q rest (a.put o.dst (.tuple #[r.getD z, .bool r.isSome])) w) : wpList P ops Q (o :: rest) a w := by
 refine wpList_lookup_map K hg mo x t true hop ht hm h k hx z hz ?_
 rw [hr]; exact hK
theorem wpList_lookup_one (r : Option Value) (K : KeyOk P kt enc) (hg : o.guard = none) (mo x : Operand) (t : TypeId) (hop : o.op = Op.lookup t mo x false) {e : TypeId}
 (ht : P.underlying t = some (.map kt e)) (hm : a.eval mo = .map (some m)) (h : MapAt enc w m ps) (k : κ) (hx : a.eval x = enc k) (hr : assocOf k ps = r) (z : Value) (hz : (zeroValue e).run P w = .ok z w)
 (hK : wpList P ops Q rest (a.put o.dst (r.getD z)) w) : wpList P ops Q (o :: rest) a w := by
 refine wpList_lookup_map K hg mo x t false hop ht hm h k hx z hz ?_
 rw [hr]; exact hK
theorem wpList_delete_map (K : KeyOk P kt enc) (hg : o.guard = none) (mo x : Operand) (t : TypeId) (hop : o.op = Op.call { callee := Callee.builtin Builtin.delete, args := #[mo, x], argTypes := #[t, kt] }) {e : TypeId}
 (ht : P.underlying t = some (.map kt e)) (hm : a.eval mo = .map (some m)) (h : MapAt enc w m ps) (k : κ) (hx : a.eval x = enc k)
 (hK : ∀ w', MapAt enc w' m (assocDel k ps) → Only (· = m) w w' → wpList P ops Q rest (a.put o.dst (.tuple #[])) w') : wpList P ops Q (o :: rest) a w := by
 refine wpList_plain hg fun K' hK' => ?_
 obtain ⟨w', hrun, r1, r2⟩ := run_delete_map (ty := o.type) K ht h k
 unfold Oper.wp
 simp [execOp, hop, resolve, invoke, builtin, hm, hx, hrun, Result.andThen]
 exact hK' _ _ (hK w' r1 r2)
end
end Go.Proofs.YtcmjgghkmdbphaaGreatDoor
namespace Go.Proofs.YtcmjgghkmdbphaaGreatDoor
open Go.RowKit
section
variable {P : Program} {ops : Array Oper} {rest : List Oper} {o : Oper} {a : Act} {w : World}
theorem run_load_blk {g : Nat} {t ty : TypeId} {cs : List Value} {d : TypeDesc} (hg : Blk w g t cs) (hu : P.underlying ty = some d) (hd : (match d with | .struct _ | .array _ _ => true | _ => false) = true) (hi : (P.info? ty).map (·.size) = some cs.length) :
 (loadVar ty ⟨g, 0, none⟩).run P w = .ok (.agg cs.toArray) w := run_loadVar_row w g t ty cs.toArray (0, 0) d hg hu hd (by simpa using hi)
theorem wpList_load_blk {Q : Exit → Act → World → Prop} (hgd : o.guard = none) {ty : TypeId} {x : Operand} (ho : o.op = .load ty x) {g : Nat} (hx : a.eval x = .pointer (some ⟨g, 0, none⟩)) {t : TypeId} {cs : List Value} {d : TypeDesc}
 (hg : Blk w g t cs) (hu : P.underlying ty = some d) (hd : (match d with | .struct _ | .array _ _ => true | _ => false) = true) (hi : (P.info? ty).map (·.size) = some cs.length)
 (h : wpList P ops Q rest (a.put o.dst (.agg cs.toArray)) w) : wpList P ops Q (o :: rest) a w :=
 wpList_load_row hgd ty x ho g hx t cs.toArray (0, 0) d hg hu hd (by simpa using hi) h
theorem wpList_load_at {Q : Exit → Act → World → Prop} (hgd : o.guard = none) {ty : TypeId} {x : Operand} (ho : o.op = .load ty x) {b off : Nat} (hx : a.eval x = .pointer (some ⟨b, off, none⟩)) {cs : List Value} {d : TypeDesc}
 (hg : ∀ j u, cs[j]? = some u → w.cell? ⟨b, off + j, none⟩ = some u) (hu : P.underlying ty = some d) (hd : (match d with | .struct _ | .array _ _ => true | _ => false) = true) (hi : (P.info? ty).map (·.size) = some cs.length)
 (h : wpList P ops Q rest (a.put o.dst (.agg cs.toArray)) w) : wpList P ops Q (o :: rest) a w := by
 refine wpList_plain hgd fun K' hK' => ?_
 have hl : (loadCells ⟨b, off, none⟩ cs.length).run P w = .ok cs.toArray w :=
  run_loadCells_list (P := P) w ⟨b, off, none⟩ cs (fun j v hv => by rw [add_off]; exact hg j v hv)
 have hr : (loadVar ty ⟨b, off, none⟩).run P w = .ok (.agg cs.toArray) w := by
  cases hq : P.info? ty with
  | none => simp [hq] at hi
  | some i =>
    have hs : i.size = cs.length := by simpa [hq] using hi
    have hagg : (isAgg ty).run P w = .ok true w := by
     unfold isAgg
     rw [Sem.run_bind, run_underlying hu w]
     cases d <;> simp_all
    simp [loadVar, Sem.run_bind, hagg, sizeOf, typeInfo, hq, hs, hl]
 unfold Oper.wp execOp
 simp only [ho, hx, Instr.loadAt, Instr.sureAddr, Sem.run_bind, Sem.run_pure, Result.andThen_ok, hr]
 exact hK' _ _ h
theorem wpList_store_new {Q : Exit → Act → World → Prop} (hgd : o.guard = none) (hdst : o.dst = none) {ty : TypeId} {x y : Operand} (ho : o.op = .store ty x y) {c cs : Array Value} {t : TypeId} (hx : a.eval x = .pointer (some ⟨w.heap.size, 0, none⟩)) (hy : a.eval y = .agg cs)
 (hi : (P.info? ty).map (·.size) = some cs.size) (hold : c.size = cs.size) (h1 : cs.all (·.oneCell') = true)
 (h : wpList P ops Q rest a (w.alloc (.cells cs t))) : wpList P ops Q (o :: rest) a (w.alloc (.cells c t)) := by
 refine wpList_plain hgd fun K' hK' => ?_
 have hg : (w.alloc (.cells c t)).heap[w.heap.size]? = some (.cells c t (0, 0)) := Go.heap_alloc_new w _
 have hr : (storeVar ty ⟨w.heap.size, 0, none⟩ (.agg cs)).run P (w.alloc (.cells c t)) = .ok () (w.alloc (.cells cs t)) := by
  rw [run_storeVar_row _ _ t ty c cs hg hi hold h1, World.setRow_alloc_new]
 unfold Oper.wp execOp
 simp only [ho, hx, hy, Instr.storeAt, Instr.sureAddr, Sem.run_bind, Sem.run_pure, Result.andThen_ok, hr, Oper.upon, hdst, Act.put]
 exact hK' _ _ h
theorem wpQuiet_load_blk {C : World → Prop} {Q : Act → Prop} (hw : Region.wanted o (yielded ops a.tmps) = true) {ty : TypeId} {x : Operand} (ho : o.op = .load ty x) {g : Nat} (hx : a.eval x = .pointer (some ⟨g, 0, none⟩)) {t : TypeId} {cs : List Value} {d : TypeDesc}
 (hg : ∀ w, C w → Blk w g t cs) (hu : P.underlying ty = some d) (hd : (match d with | .struct _ | .array _ _ => true | _ => false) = true) (hi : (P.info? ty).map (·.size) = some cs.length)
 (h : wpQuiet P ops C Q rest (a.put o.dst (.agg cs.toArray))) : wpQuiet P ops C Q (o :: rest) a := by
 refine BigFrame.wpQuiet_want hw fun K hK => ⟨.agg cs.toArray, fun w hC => ?_, hK _ h⟩
 unfold Oper.quietAt execOp
 simp only [ho, hx, Instr.loadAt, Instr.sureAddr, Sem.run_bind, Sem.run_pure, Result.andThen_ok, run_load_blk (hg w hC) hu hd hi, Oper.quietUpon, and_self]
end
end Go.Proofs.YtcmjgghkmdbphaaGreatDoor
namespace Go.Proofs.YtcmjgghkmdbphaaGreatDoor
open Go.RowKit
theorem tx_equal (a b : Tx) (w : World) : (Op.equal 42 (txE a) (txE b)).run Tryz.prog w = .ok (decide (a = b)) w := by
 have e : decide (a = b) = (a.node == b.node && (a.life == b.life && a.num == b.num)) := by
  obtain ⟨a1, a2, a3⟩ := a
  obtain ⟨b1, b2, b3⟩ := b
  rw [Bool.eq_iff_iff]
  simp
 rw [e]
 unfold txE
 have h1 : Tryz.prog.underlying 42 = some (.struct (Tryz.prog.fieldsOf 42)) := by kernel_rfl
 have h2 := Tryz.underlying3
 rw [show Op.equal 42 (.agg #[.int .i64 a.node, .int .i64 a.life, .int .i64 a.num]) (.agg #[.int .i64 b.node, .int .i64 b.life, .int .i64 b.num]) = Op.equalIn (9999 + 1) 42 (.agg #[.int .i64 a.node, .int .i64 a.life, .int .i64 a.num]) (.agg #[.int .i64 b.node, .int .i64 b.life, .int .i64 b.num]) from rfl,
  run_equalIn_agg w 9999 42 _ _ h1 Tryz.stoodInHeld42]
 have h3 : Tryz.prog.fieldsOf 42 = (match Tryz.prog.underlying 42 with | some (.struct fs) => fs | _ => #[]) := by kernel_rfl
 rw [h3, Tryz.underlying42]
 simp only [Op.eqFields]
 simp [go_sem, Tryz.isAgg3, Sem.run_bind, Sem.run_ite, run_equalIn_int _ 9998 3 .i64 .i64 _ _ h2, Result.andThen]
 by_cases c1 : a.node = b.node <;> by_cases c2 : a.life = b.life <;> by_cases c3 : a.num = b.num <;> simp [c1, c2, c3]
theorem tx_find (k : Tx) (w : World) : ∀ (es : List MapEntry) (ps : List (Tx × Value)) (i : Nat), es.map (fun e => (e.key, e.val)) = ps.map (fun p => (txE p.1, p.2)) → (Instr.findAsking 42 (txE k) es i).run Tryz.prog w = .ok (assocAt k ps i) w
 | [], ps, i, h => by
   cases ps with
   | nil => rfl
   | cons p ps => simp at h
 | e :: es, ps, i, h => by
   cases ps with
   | nil => simp at h
   | cons p ps =>
     simp only [List.map_cons, List.cons.injEq, Prod.mk.injEq] at h
     obtain ⟨⟨h1, h2⟩, h3⟩ := h
     unfold Instr.findAsking
     rw [Sem.run_bind, h1, tx_equal, Result.andThen_ok]
     unfold assocAt
     by_cases hk : k = p.1
     ·rw [decide_eq_true hk, if_pos rfl, if_pos hk, h2]; rfl
     ·rw [jd hk, if_neg (by simp), if_neg hk]
      exact tx_find k w es ps (i + 1) h3
theorem tx_key : KeyOk Tryz.prog 42 txE where
 check b k w := by
  rw [show (10000 : Nat) = 9999 + 1 from rfl, Instr.checkKey]
  have h3 : Tryz.prog.underlying 42 = some (.struct (match Tryz.prog.underlying 42 with | some (.struct fs) => fs | _ => #[])) := by kernel_rfl
  unfold txE
  simp [run_underlying Tryz.underlying42, go_sem, Tryz.isAgg3, Sem.run_bind, Result.andThen]
  have hc : ∀ n, (Instr.checkKey b 9999 3 (.int .i64 n)).run Tryz.prog w = .ok () w := fun n => by
   rw [show (9999 : Nat) = 9998 + 1 from rfl, Instr.checkKey]
   simp [run_underlying Tryz.underlying3]
  simp [hc]
 find k es ps w he := by
  unfold Instr.findKey
  rw [Sem.run_bind, run_underlying Tryz.underlying42, Result.andThen_ok]
  cases es with
  | nil =>
    cases ps with
    | nil => rfl
    | cons p ps => simp at he
  | cons e es =>
    have hn : ∀ fs, Instr.findNow (.struct fs) (txE k) (e :: es) 0 = none := fun fs => by
     unfold Instr.findNow Instr.sameNow txE
     rfl
    rw [hn]
    exact tx_find k w _ ps 0 he
 stays k w := by
  have h : ∀ n, Instr.sameBits (n + 2) (txE k) (txE k) = true := fun n => by
   unfold txE
   simp [Instr.sameBits]
  have h' : Instr.sameBits 10000 (txE k) (txE k) = true := h 9998
  simp [Instr.keyThatStays, h']
def MapV (w : World) (v : Value) (ps : List (Tx × Value)) : Prop := (v = .map none ∧ ps = []) ∨ ∃ m, v = .map (some m) ∧ MapAt txE w m ps
theorem MapV.ext {w w' : World} {v : Value} {ps : List (Tx × Value)} (h : MapV w v ps) (hb : Below w.heap.size w w') : MapV w' v ps := by
 rcases h with h | ⟨m, e, h⟩
 ·exact .inl h
 ·exact .inr ⟨m, e, h.ext hb⟩
end Go.Proofs.YtcmjgghkmdbphaaGreatDoor
