/- hindcastlaw07: texts joined: ParA, ParB, ParC, ParD, ParE, LexOA, LexZD, ParF, ParG, ParGB. -/
import Derived.Test.YtllbpdllkkcajaaGreatDoorPte
namespace Go.Proofs.YtllbpdllkkcajaaGreatDoor
open Go.RowKit
/-- A tree: kind, line, column, number, text, children. -/
inductive Tr where
  | nd (k l c n : Int) (x : List UInt8) (ks : List Tr)
def Tr.k : Tr → Int
  | .nd k _ _ _ _ _ => k
/-- The parser's state: the place, how deep, the first fault. -/
structure PS where
  a : Nat
  d : Int
  f : Int × Int × Int
section
variable (L : List Tok)
def tk (p : PS) : Tok := L.getD p.a ⟨8, 0, 0, 0, []⟩
def PS.bad (p : PS) : Bool := !(p.f.1 == 0)
def pFail (e : Int) (p : PS) : PS := if p.bad then p else { p with f := (e, (tk L p).l, (tk L p).c) }
def pIs (s : List UInt8) (p : PS) : Bool := !p.bad && ((tk L p).k == 6 || (tk L p).k == 7) && (tk L p).x == s
def pPass (p : PS) : PS := if (tk L p).k = 8 then p else { p with a := p.a + 1 }
def pMust (s : List UInt8) (p : PS) : PS := if pIs L s p then pPass L p else pFail L 5 p
def pOpen (s : List UInt8) (p : PS) : PS :=
  let p1 := if pIs L s p && p.d == 40 then pFail L 6 p else p
  { pMust L s p1 with d := (pMust L s p1).d + 1 }
def pShut (s : List UInt8) (p : PS) : PS := { pMust L s p with d := (pMust L s p).d - 1 }
def pWord (k : Int) (p : PS) : PS := if p.bad || !((tk L p).k == k) then pFail L 5 p else pPass L p
/-- A token's tree. -/
def nd (k : Int) (t : Tok) (n : Int) (x : List UInt8) (ks : List Tr) : Tr := .nd k t.l t.c n x ks
/-- The operation of the next token at a level; 0: it is none of it. -/
def opTab (x : List UInt8) : Int × Nat :=
  if x = [124, 124] then (15, 1) else if x = [38, 38] then (14, 2) else if x = [61, 61] then (6, 3) else if x = [33, 61] then (7, 3)
  else if x = [60] then (8, 4) else if x = [60, 61] then (9, 4) else if x = [62] then (10, 4) else if x = [62, 61] then (11, 4)
  else if x = [43] then (1, 5) else if x = [45] then (2, 5) else if x = [42] then (3, 6) else if x = [47] then (4, 6) else if x = [37] then (5, 6) else (0, 0)
def pOp (lvl : Nat) (p : PS) : Int := if p.bad || !((tk L p).k == 7) then 0 else if (opTab (tk L p).x).2 = lvl then (opTab (tk L p).x).1 else 0
def wTrue : List UInt8 := [116, 114, 117, 101]
def wFalse : List UInt8 := [102, 97, 108, 115, 101]
def wNil : List UInt8 := [110, 105, 108]
def wMake : List UInt8 := [109, 97, 107, 101]
def wInt : List UInt8 := [105, 110, 116]
def wBool : List UInt8 := [98, 111, 111, 108]
def wStr : List UInt8 := [115, 116, 114]
def wComp : List UInt8 := [99, 111, 109, 112]
/-- A type. -/
def pKind : Nat → PS → Option (Tr × PS)
  | 0, _ => none
  | n + 1, p =>
    if p.bad then some (nd 15 (tk L p) 0 [] [], p)
    else if pIs L wInt p then some (nd 15 (tk L p) 0 [] [], pPass L p)
    else if pIs L wBool p then some (nd 16 (tk L p) 0 [] [], pPass L p)
    else if pIs L wStr p then some (nd 17 (tk L p) 0 [] [], pPass L p)
    else if pIs L wComp p then some (nd 18 (tk L p) 0 [] [], pPass L p)
    else if (tk L p).k = 2 then some (nd 19 (tk L p) 0 (tk L p).x [], pPass L p)
    else if pIs L [91] p then (pKind n (pOpen L [91] p)).map fun r => (nd 20 (tk L p) 0 [] [r.1], pShut L [93] r.2)
    else some (nd 15 (tk L p) 0 [] [], pFail L 5 p)
/-- Behind the word make. -/
def pHead (p : PS) : PS := if !((tk L (pPass L p)).k == 2) && !pIs L [91] (pPass L p) then pFail L 5 (pPass L p) else pPass L p
mutual
/-- What stands at a level, and above. -/
def pBin : Nat → Nat → PS → Option (Tr × PS)
  | 0, _, _ => none
  | n + 1, lvl, p => if 6 < lvl then pUn n p else (pBin n (lvl + 1) p).bind fun r => pBinL n lvl r.1 r.2
def pBinL : Nat → Nat → Tr → PS → Option (Tr × PS)
  | 0, _, _, _ => none
  | n + 1, lvl, x, p =>
    if pOp L lvl p = 0 then some (x, p)
    else (pBin n (lvl + 1) (pPass L p)).bind fun r =>
      if lvl = 3 ∨ lvl = 4 then some (nd 31 (tk L p) (pOp L lvl p) [] [x, r.1], r.2) else pBinL n lvl (nd 31 (tk L p) (pOp L lvl p) [] [x, r.1]) r.2
def pUn : Nat → PS → Option (Tr × PS)
  | 0, _ => none
  | n + 1, p =>
    if pIs L [45] p then (pUn n (pOpen L (tk L p).x p)).map fun r => (nd 30 (tk L p) 12 [] [r.1], { r.2 with d := r.2.d - 1 })
    else if pIs L [33] p then (pUn n (pOpen L (tk L p).x p)).map fun r => (nd 30 (tk L p) 13 [] [r.1], { r.2 with d := r.2.d - 1 })
    else (pAtom n p).bind fun r => pPost n r.1 r.2
/-- What stands behind an atom. -/
def pPost : Nat → Tr → PS → Option (Tr × PS)
  | 0, _, _ => none
  | n + 1, x, p =>
    if pIs L [91] p then (pBin n 1 (pOpen L [91] p)).bind fun r => pPost n (nd 28 (tk L p) 0 [] [x, r.1]) (pShut L [93] r.2)
    else if pIs L [46] p then pPost n (nd 29 (tk L p) 0 (tk L (pPass L p)).x [x]) (pWord L 1 (pPass L p))
    else some (x, p)
def pAtom : Nat → PS → Option (Tr × PS)
  | 0, _ => none
  | n + 1, p =>
    if p.bad then some (nd 25 (tk L p) 0 [] [], p)
    else if (tk L p).k = 3 then some (nd 21 (tk L p) (tk L p).n [] [], pPass L p)
    else if (tk L p).k = 4 then some (nd 22 (tk L p) (tk L p).n [] [], pPass L p)
    else if (tk L p).k = 5 then some (nd 23 (tk L p) 0 (tk L p).x [], pPass L p)
    else if pIs L wTrue p then some (nd 24 (tk L p) 1 [] [], pPass L p)
    else if pIs L wFalse p then some (nd 24 (tk L p) 0 [] [], pPass L p)
    else if pIs L wNil p then some (nd 25 (tk L p) 0 [] [], pPass L p)
    else if (tk L p).k = 1 then
      if pIs L [40] (pPass L p) then (pArgs n true [] (pOpen L [40] (pPass L p))).map fun r => (nd 27 (tk L p) 0 (tk L p).x r.1, pShut L [41] r.2)
      else some (nd 26 (tk L p) 0 (tk L p).x [], pPass L p)
    else if pIs L [40] p then (pBin n 1 (pOpen L [40] p)).map fun r => (r.1, pShut L [41] r.2)
    else if pIs L wMake p then
      (pKind L n (pHead L p)).bind fun r =>
        if r.1.k = 20 then (pBin n 1 (pOpen L [40] r.2)).map fun y => (nd 32 (tk L p) 0 [] [r.1, y.1], pShut L [41] y.2)
        else some (nd 32 (tk L p) 0 [] [r.1], pShut L [41] (pOpen L [40] r.2))
    else some (nd 25 (tk L p) 0 [] [], pFail L 5 p)
def pArgs : Nat → Bool → List Tr → PS → Option (List Tr × PS)
  | 0, _, _, _ => none
  | n + 1, first, acc, p =>
    if p.bad || pIs L [41] p then some (acc, p)
    else (pBin n 1 (if first then p else pMust L [44] p)).bind fun r => pArgs n false (acc ++ [r.1]) r.2
end
def wVar : List UInt8 := [118, 97, 114]
def wIf : List UInt8 := [105, 102]
def wElse : List UInt8 := [101, 108, 115, 101]
def wWhile : List UInt8 := [119, 104, 105, 108, 101]
def wReturn : List UInt8 := [114, 101, 116, 117, 114, 110]
def wPrint : List UInt8 := [112, 114, 105, 110, 116]
def wRec : List UInt8 := [114, 101, 99]
def wFn : List UInt8 := [102, 110]
/-- A name, a colon, a type. -/
def pTyped (n : Nat) (kind : Int) (p : PS) : Option (Tr × PS) :=
  (pKind L n (pMust L [58] (pWord L 1 p))).map fun r => (nd kind (tk L p) 0 (tk L p).x [r.1], r.2)
/-- A statement that begins with an expression. -/
def pPlain (n : Nat) (t : Tok) (p : PS) : Option (Tr × PS) :=
  (pBin L n 1 p).bind fun r =>
    let x := r.1
    let q := r.2
    if q.bad then some (nd 13 t 0 [] [x], q)
    else if pIs L [61] q && (x.k == 26 || x.k == 28 || x.k == 29) then (pBin L n 1 (pPass L q)).map fun y => (nd 8 t 0 [] [x, y.1], pMust L [59] y.2)
    else if pIs L [61] q || !(x.k == 27) then some (nd 13 t 0 [] [x], pMust L [59] (pFail L 5 q))
    else some (nd 13 t 0 [] [x], pMust L [59] q)
mutual
def pStat : Nat → PS → Option (Tr × PS)
  | 0, _ => none
  | n + 1, p =>
    let t := tk L p
    if pIs L wVar p then
      let q := pPass L p
      (pKind L n (pMust L [58] (pWord L 1 q))).bind fun r => (pBin L n 1 (pMust L [61] r.2)).map fun y => (nd 7 t 0 (tk L q).x [r.1, y.1], pMust L [59] y.2)
    else if pIs L wIf p then
      (pBin L n 1 (pPass L p)).bind fun r => (pBlock n r.2).bind fun b =>
        if pIs L wElse b.2 then (pBlock n (pPass L b.2)).map fun e => (nd 9 t 0 [] [r.1, b.1, e.1], e.2)
        else some (nd 9 t 0 [] [r.1, b.1], b.2)
    else if pIs L wWhile p then (pBin L n 1 (pPass L p)).bind fun r => (pBlock n r.2).map fun b => (nd 10 t 0 [] [r.1, b.1], b.2)
    else if pIs L wReturn p then
      if pIs L [59] (pPass L p) then some (nd 11 t 0 [] [], pMust L [59] (pPass L p))
      else (pBin L n 1 (pPass L p)).map fun r => (nd 11 t 0 [] [r.1], pMust L [59] r.2)
    else if pIs L wPrint p then (pBin L n 1 (pPass L p)).map fun r => (nd 12 t 0 [] [r.1], pMust L [59] r.2)
    else pPlain L n t p
def pBlock : Nat → PS → Option (Tr × PS)
  | 0, _ => none
  | n + 1, p => (pStats n [] (pOpen L [123] p)).map fun r => (nd 6 (tk L p) 0 [] r.1, pShut L [125] r.2)
def pStats : Nat → List Tr → PS → Option (List Tr × PS)
  | 0, _, _ => none
  | n + 1, acc, p => if p.bad || pIs L [125] p then some (acc, p) else (pStat n p).bind fun r => pStats n (acc ++ [r.1]) r.2
end
def pFields : Nat → List Tr → PS → Option (List Tr × PS)
  | 0, _, _ => none
  | n + 1, acc, p => if p.bad || pIs L [125] p then some (acc, p) else (pTyped L n 3 p).bind fun r => pFields n (acc ++ [r.1]) (pMust L [59] r.2)
def pRecord (n : Nat) (p : PS) : Option (Tr × PS) :=
  let q := pMust L wRec p
  (pFields L n [] (pOpen L [123] (pWord L 2 q))).map fun r => (nd 2 (tk L p) 0 (tk L q).x r.1, pShut L [125] r.2)
def pParams : Nat → Bool → List Tr → PS → Option (List Tr × PS)
  | 0, _, _, _ => none
  | n + 1, first, acc, p => if p.bad || pIs L [41] p then some (acc, p) else (pTyped L n 5 (if first then p else pMust L [44] p)).bind fun r => pParams n false (acc ++ [r.1]) r.2
def pFn (n : Nat) (p : PS) : Option (Tr × PS) :=
  let q := pMust L wFn p
  (pParams L n true [] (pOpen L [40] (pWord L 1 q))).bind fun r =>
    let q2 := pShut L [41] r.2
    (if pIs L [58] q2 then pKind L n (pPass L q2) else some (Tr.nd 14 0 0 0 [] [], q2)).bind fun k =>
      (pBlock L n k.2).map fun b => (nd 4 (tk L p) r.1.length (tk L q).x (r.1 ++ [k.1, b.1]), b.2)
def pProgL : Nat → List Tr → PS → Option (List Tr × PS)
  | 0, _, _ => none
  | n + 1, acc, p =>
    if p.bad || (tk L p).k == 8 then some (acc, p)
    else if pIs L wRec p then (pRecord L n p).bind fun r => pProgL n (acc ++ [r.1]) r.2
    else if pIs L wFn p then (pFn L n p).bind fun r => pProgL n (acc ++ [r.1]) r.2
    else pProgL n acc (pFail L 5 p)
def pProg (n : Nat) (p : PS) : Option (Tr × PS) := (pProgL L n [] p).map fun r => (.nd 1 1 1 0 [] r.1, r.2)
end
mutual
/-- How many nodes a tree has below its first. -/
def Tr.sz : Tr → Nat
  | .nd _ _ _ _ _ ks => Tr.szs ks
def Tr.szs : List Tr → Nat
  | [] => 0
  | t :: ts => t.sz + 1 + Tr.szs ts
end
/-- A node: kind, line, column, size, number, text. -/
structure Nod where
  k : Int
  l : Int
  c : Int
  z : Nat
  n : Int
  x : List UInt8
  deriving DecidableEq
mutual
/-- A tree's nodes, in their order. -/
def Tr.nods : Tr → List Nod
  | .nd k l c n x ks => ⟨k, l, c, Tr.szs ks, n, x⟩ :: Tr.nodss ks
def Tr.nodss : List Tr → List Nod
  | [] => []
  | t :: ts => t.nods ++ Tr.nodss ts
end
end Go.Proofs.YtllbpdllkkcajaaGreatDoor
namespace Go.Proofs.YtllbpdllkkcajaaGreatDoor
open Go.RowKit
/-- A row of tokens: the last one is the end, and no other is. -/
structure LW (L : List Tok) : Prop where
  pos : 0 < L.length
  last : (L.getD (L.length - 1) ⟨8, 0, 0, 0, []⟩).k = 8
section
variable {L : List Tok}
/-- On: as deep, no less far, within the row. -/
structure Adv (L : List Tok) (p q : PS) (e : Int) : Prop where
  d : q.d = p.d + e
  a : p.a ≤ q.a
  v : p.a < L.length → q.a < L.length
  b : p.bad = true → q.f = p.f
theorem Adv.refl (p : PS) : Adv L p p 0 := ⟨by omega, Nat.le_refl _, id, fun _ => rfl⟩
theorem bad_f {p q : PS} (h : q.f = p.f) : q.bad = p.bad := by unfold PS.bad; rw [h]
theorem Adv.trans {p q r : PS} {e f : Int} (h : Adv L p q e) (k : Adv L q r f) : Adv L p r (e + f) := ⟨by rw [k.d, h.d]; omega, Nat.le_trans h.a k.a, fun x => k.v (h.v x), fun x => (k.b (by rw [bad_f (h.b x)]; exact x)).trans (h.b x)⟩
theorem Adv.of {p q : PS} {e f : Int} (h : Adv L p q e) (he : e = f) : Adv L p q f := he ▸ h
theorem adv_fail (e : Int) (p : PS) : Adv L p (pFail L e p) 0 := by
  unfold pFail; split
  · exact Adv.refl p
  · rename_i hb
    exact ⟨by simp, Nat.le_refl _, id, fun h => absurd h hb⟩
theorem adv_pass (H : LW L) (p : PS) : Adv L p (pPass L p) 0 := by
  unfold pPass; split
  · exact Adv.refl p
  · rename_i h
    refine ⟨by simp, Nat.le_succ _, fun hv => ?_, fun _ => rfl⟩
    show p.a + 1 < L.length
    by_cases e : p.a = L.length - 1
    · exfalso; apply h
      unfold tk; rw [e]; exact H.last
    · omega
theorem adv_must (H : LW L) (s : List UInt8) (p : PS) : Adv L p (pMust L s p) 0 := by
  unfold pMust; split
  · exact adv_pass H p
  · exact adv_fail 5 p
theorem adv_open (H : LW L) (s : List UInt8) (p : PS) : Adv L p (pOpen L s p) 1 := by
  unfold pOpen
  have h1 : Adv L p (if (pIs L s p && p.d == 40) = true then pFail L 6 p else p) 0 := by
    split
    · exact adv_fail 6 p
    · exact Adv.refl p
  have h2 := h1.trans (adv_must H s _)
  exact ⟨by simp only; rw [h2.d]; omega, h2.a, h2.v, h2.b⟩
theorem adv_shut (H : LW L) (s : List UInt8) (p : PS) : Adv L p (pShut L s p) (-1) := by
  have h2 := adv_must H s p
  exact ⟨by show _ - 1 = _; rw [h2.d]; omega, h2.a, h2.v, h2.b⟩
theorem adv_word (H : LW L) (k : Int) (p : PS) : Adv L p (pWord L k p) 0 := by
  unfold pWord; split
  · exact adv_fail 5 p
  · exact adv_pass H p
theorem adv_kind (H : LW L) : ∀ (n : Nat) (p : PS) {t : Tr} {q : PS}, pKind L n p = some (t, q) → Adv L p q 0
  | 0, p, t, q, h => by cases h
  | n + 1, p, t, q, h => by
    rw [pKind] at h
    split at h
    · cases h; exact Adv.refl p
    split at h
    · cases h; exact adv_pass H p
    split at h
    · cases h; exact adv_pass H p
    split at h
    · cases h; exact adv_pass H p
    split at h
    · cases h; exact adv_pass H p
    split at h
    · cases h; exact adv_pass H p
    split at h
    · simp only [Option.map_eq_some_iff] at h
      obtain ⟨⟨x, r⟩, h1, h2⟩ := h
      cases h2
      exact (((adv_open H _ p).trans (adv_kind H n _ h1)).trans (adv_shut H _ r)).of (by omega)
    · cases h; exact adv_fail 5 p
/-- Whatever has been taken of an expression. -/
def AdvE (L : List Tok) (n : Nat) : Prop :=
  (∀ lvl p t q, pBin L n lvl p = some (t, q) → Adv L p q 0) ∧ (∀ lvl x p t q, pBinL L n lvl x p = some (t, q) → Adv L p q 0) ∧ (∀ p t q, pUn L n p = some (t, q) → Adv L p q 0) ∧
  (∀ x p t q, pPost L n x p = some (t, q) → Adv L p q 0) ∧ (∀ p t q, pAtom L n p = some (t, q) → Adv L p q 0) ∧ (∀ f acc p l q, pArgs L n f acc p = some (l, q) → Adv L p q 0)
theorem advE (H : LW L) : ∀ n, AdvE L n
  | 0 => ⟨fun _ _ _ _ h => (by cases h), fun _ _ _ _ _ h => (by cases h), fun _ _ _ h => (by cases h), fun _ _ _ _ h => (by cases h), fun _ _ _ h => (by cases h), fun _ _ _ _ _ h => (by cases h)⟩
  | n + 1 => by
    obtain ⟨i1, i2, i3, i4, i5, i6⟩ := advE H n
    refine ⟨fun lvl p t q h => ?_, fun lvl x p t q h => ?_, fun p t q h => ?_, fun x p t q h => ?_, fun p t q h => ?_, fun f acc p l q h => ?_⟩
    · rw [pBin] at h
      split at h
      · exact i3 _ _ _ h
      · simp only [Option.bind_eq_some_iff] at h
        obtain ⟨⟨y, r⟩, h1, h2⟩ := h
        exact (i1 _ _ _ _ h1).trans (i2 _ _ _ _ _ h2)
    · rw [pBinL] at h
      split at h
      · cases h; exact Adv.refl p
      · simp only [Option.bind_eq_some_iff] at h
        obtain ⟨⟨y, r⟩, h1, h2⟩ := h
        have hr := (adv_pass H p).trans (i1 _ _ _ _ h1)
        split at h2
        · cases h2; exact hr
        · exact hr.trans (i2 _ _ _ _ _ h2)
    · rw [pUn] at h
      split at h
      · simp only [Option.map_eq_some_iff] at h
        obtain ⟨⟨y, r⟩, h1, h2⟩ := h
        cases h2
        have := (adv_open H (tk L p).x p).trans (i3 _ _ _ h1)
        exact ⟨by simp only; rw [this.d]; omega, this.a, this.v, this.b⟩
      · split at h
        · simp only [Option.map_eq_some_iff] at h
          obtain ⟨⟨y, r⟩, h1, h2⟩ := h
          cases h2
          have := (adv_open H (tk L p).x p).trans (i3 _ _ _ h1)
          exact ⟨by simp only; rw [this.d]; omega, this.a, this.v, this.b⟩
        · simp only [Option.bind_eq_some_iff] at h
          obtain ⟨⟨y, r⟩, h1, h2⟩ := h
          exact (i5 _ _ _ h1).trans (i4 _ _ _ _ h2)
    · rw [pPost] at h
      split at h
      · simp only [Option.bind_eq_some_iff] at h
        obtain ⟨⟨y, r⟩, h1, h2⟩ := h
        exact ((((adv_open H _ p).trans (i1 _ _ _ _ h1)).trans (adv_shut H _ r)).trans (i4 _ _ _ _ h2)).of (by omega)
      · split at h
        · exact (((adv_pass H p).trans (adv_word H 1 _)).trans (i4 _ _ _ _ h)).of (by omega)
        · cases h; exact Adv.refl p
    · rw [pAtom] at h
      by_cases c : p.bad = true
      · rw [if_pos c] at h; cases h; exact Adv.refl p
      rw [if_neg c] at h; clear c
      by_cases c : (tk L p).k = 3
      · rw [if_pos c] at h; cases h; exact adv_pass H p
      rw [if_neg c] at h; clear c
      by_cases c : (tk L p).k = 4
      · rw [if_pos c] at h; cases h; exact adv_pass H p
      rw [if_neg c] at h; clear c
      by_cases c : (tk L p).k = 5
      · rw [if_pos c] at h; cases h; exact adv_pass H p
      rw [if_neg c] at h; clear c
      by_cases c : pIs L wTrue p = true
      · rw [if_pos c] at h; cases h; exact adv_pass H p
      rw [if_neg c] at h; clear c
      by_cases c : pIs L wFalse p = true
      · rw [if_pos c] at h; cases h; exact adv_pass H p
      rw [if_neg c] at h; clear c
      by_cases c : pIs L wNil p = true
      · rw [if_pos c] at h; cases h; exact adv_pass H p
      rw [if_neg c] at h; clear c
      by_cases c : (tk L p).k = 1
      · rw [if_pos c] at h
        by_cases c2 : pIs L [40] (pPass L p) = true
        · rw [if_pos c2] at h
          simp only [Option.map_eq_some_iff] at h
          obtain ⟨⟨y, r⟩, h1, h2⟩ := h
          cases h2
          exact ((((adv_pass H p).trans (adv_open H _ _)).trans (i6 _ _ _ _ _ h1)).trans (adv_shut H _ r)).of (by omega)
        · rw [if_neg c2] at h
          cases h; exact adv_pass H p
      rw [if_neg c] at h; clear c
      by_cases c : pIs L [40] p = true
      · rw [if_pos c] at h
        simp only [Option.map_eq_some_iff] at h
        obtain ⟨⟨y, r⟩, h1, h2⟩ := h
        cases h2
        exact (((adv_open H _ _).trans (i1 _ _ _ _ h1)).trans (adv_shut H _ r)).of (by omega)
      rw [if_neg c] at h; clear c
      by_cases c : pIs L wMake p = true
      · rw [if_pos c] at h
        simp only [Option.bind_eq_some_iff] at h
        obtain ⟨⟨y, r⟩, h1, h2⟩ := h
        have h0 : Adv L p (pHead L p) 0 := by
          unfold pHead; split
          · exact ((adv_pass H p).trans (adv_fail 5 _)).of (by omega)
          · exact adv_pass H p
        have hk := h0.trans (adv_kind H n _ h1)
        split at h2
        · simp only [Option.map_eq_some_iff] at h2
          obtain ⟨⟨z, u⟩, h3, h4⟩ := h2
          cases h4
          exact (((hk.trans (adv_open H _ r)).trans (i1 _ _ _ _ h3)).trans (adv_shut H _ u)).of (by omega)
        · cases h2
          exact ((hk.trans (adv_open H _ r)).trans (adv_shut H _ _)).of (by omega)
      rw [if_neg c] at h
      cases h; exact adv_fail 5 p
    · rw [pArgs] at h
      split at h
      · cases h; exact Adv.refl p
      · simp only [Option.bind_eq_some_iff] at h
        obtain ⟨⟨y, r⟩, h1, h2⟩ := h
        have h0 : Adv L p (if f = true then p else pMust L [44] p) 0 := by
          split
          · exact Adv.refl p
          · exact adv_must H _ p
        exact ((h0.trans (i1 _ _ _ _ h1)).trans (i6 _ _ _ _ _ h2)).of (by omega)
end
end Go.Proofs.YtllbpdllkkcajaaGreatDoor
namespace Go.Proofs.YtllbpdllkkcajaaGreatDoor
open Go.RowKit
section
variable {L : List Tok}
/-- Taken, or at fault. -/
def Went (p q : PS) : Prop := q.bad = true ∨ p.a < q.a
theorem Went.trans {p q r : PS} {e : Int} (h : Went p q) (k : Adv L q r e) : Went p r := by
  rcases h with h | h
  · exact .inl (by rw [bad_f (k.b h)]; exact h)
  · exact .inr (by have := k.a; omega)
theorem Went.after {p q r : PS} {e : Int} (k : Adv L p q e) (h : Went q r) : Went p r := by
  rcases h with h | h
  · exact .inl h
  · exact .inr (by have := k.a; omega)
theorem went_pass {p : PS} (h : (tk L p).k ≠ 8) : Went p (pPass L p) := by
  unfold pPass; rw [if_neg h]; exact .inr (Nat.lt_succ_self _)
theorem is_k {s : List UInt8} {p : PS} (h : pIs L s p = true) : p.bad = false ∧ (tk L p).k ≠ 8 := by
  unfold pIs at h
  simp only [Bool.and_eq_true, Bool.or_eq_true, Bool.not_eq_true', beq_iff_eq] at h
  exact ⟨h.1.1, by omega⟩
theorem went_is {s : List UInt8} {p : PS} (h : pIs L s p = true) : Went p (pPass L p) := went_pass (is_k h).2
theorem bad_fail {e : Int} (he : e ≠ 0) (p : PS) : (pFail L e p).bad = true := by
  unfold pFail; split
  · assumption
  · unfold PS.bad; simp [he]
theorem bad_is {s : List UInt8} {p : PS} (h : p.bad = true) : pIs L s p = false := by unfold pIs; rw [h]; rfl
theorem went_open {s : List UInt8} {p : PS} (h : pIs L s p = true) : Went p (pOpen L s p) := by
  unfold pOpen
  by_cases c : (pIs L s p && p.d == 40) = true
  · left
    simp only [c, if_true]
    have hb : (pFail L 6 p).bad = true := bad_fail (by decide) p
    have : pMust L s (pFail L 6 p) = pFail L 6 p := by
      unfold pMust; rw [bad_is hb]
      show pFail L 5 (pFail L 6 p) = _
      rw [pFail.eq_def L 5, if_pos hb]
    show (pMust L s (pFail L 6 p)).bad = true
    rw [this]; exact hb
  · have e : pMust L s p = pPass L p := by unfold pMust; rw [if_pos h]
    simp only [c]
    show Went p { pMust L s p with d := _ }
    rw [e]
    exact went_is h
def WentE (L : List Tok) (n : Nat) : Prop :=
  (∀ lvl p t q, pBin L n lvl p = some (t, q) → Went p q) ∧ (∀ p t q, pUn L n p = some (t, q) → Went p q) ∧ (∀ p t q, pAtom L n p = some (t, q) → Went p q)
theorem wentE (H : LW L) : ∀ n, WentE L n
  | 0 => ⟨fun _ _ _ _ h => (by cases h), fun _ _ _ h => (by cases h), fun _ _ _ h => (by cases h)⟩
  | n + 1 => by
    obtain ⟨i1, i3, i5⟩ := wentE H n
    obtain ⟨a1, a2, a3, a4, a5, a6⟩ := advE H n
    refine ⟨fun lvl p t q h => ?_, fun p t q h => ?_, fun p t q h => ?_⟩
    · rw [pBin] at h
      split at h
      · exact i3 _ _ _ h
      · simp only [Option.bind_eq_some_iff] at h
        obtain ⟨⟨y, r⟩, h1, h2⟩ := h
        exact (i1 _ _ _ _ h1).trans (a2 _ _ _ _ _ h2)
    · rw [pUn] at h
      split at h
      · rename_i c
        simp only [Option.map_eq_some_iff] at h
        obtain ⟨⟨y, r⟩, h1, h2⟩ := h
        cases h2
        have hx : (tk L p).x = [45] := by
          unfold pIs at c; simp only [Bool.and_eq_true, beq_iff_eq] at c; exact c.2
        rw [hx] at h1
        have w : Went p r := (went_open c).trans (a3 _ _ _ h1)
        exact w
      · split at h
        · rename_i c
          simp only [Option.map_eq_some_iff] at h
          obtain ⟨⟨y, r⟩, h1, h2⟩ := h
          cases h2
          have hx : (tk L p).x = [33] := by
            unfold pIs at c; simp only [Bool.and_eq_true, beq_iff_eq] at c; exact c.2
          rw [hx] at h1
          have w : Went p r := (went_open c).trans (a3 _ _ _ h1)
          exact w
        · simp only [Option.bind_eq_some_iff] at h
          obtain ⟨⟨y, r⟩, h1, h2⟩ := h
          exact (i5 _ _ _ h1).trans (a4 _ _ _ _ h2)
    · rw [pAtom] at h
      by_cases c : p.bad = true
      · rw [if_pos c] at h; cases h; exact .inl c
      rw [if_neg c] at h; clear c
      by_cases c : (tk L p).k = 3
      · rw [if_pos c] at h; cases h; exact went_pass (by omega)
      rw [if_neg c] at h; clear c
      by_cases c : (tk L p).k = 4
      · rw [if_pos c] at h; cases h; exact went_pass (by omega)
      rw [if_neg c] at h; clear c
      by_cases c : (tk L p).k = 5
      · rw [if_pos c] at h; cases h; exact went_pass (by omega)
      rw [if_neg c] at h; clear c
      by_cases c : pIs L wTrue p = true
      · rw [if_pos c] at h; cases h; exact went_is c
      rw [if_neg c] at h; clear c
      by_cases c : pIs L wFalse p = true
      · rw [if_pos c] at h; cases h; exact went_is c
      rw [if_neg c] at h; clear c
      by_cases c : pIs L wNil p = true
      · rw [if_pos c] at h; cases h; exact went_is c
      rw [if_neg c] at h; clear c
      by_cases c : (tk L p).k = 1
      · rw [if_pos c] at h
        have hp : Went p (pPass L p) := went_pass (by omega)
        by_cases c2 : pIs L [40] (pPass L p) = true
        · rw [if_pos c2] at h
          simp only [Option.map_eq_some_iff] at h
          obtain ⟨⟨y, r⟩, h1, h2⟩ := h
          cases h2
          exact ((hp.trans (adv_open H _ _)).trans (a6 _ _ _ _ _ h1)).trans (adv_shut H _ r)
        · rw [if_neg c2] at h
          cases h; exact hp
      rw [if_neg c] at h; clear c
      by_cases c : pIs L [40] p = true
      · rw [if_pos c] at h
        simp only [Option.map_eq_some_iff] at h
        obtain ⟨⟨y, r⟩, h1, h2⟩ := h
        cases h2
        exact ((went_open c).trans (a1 _ _ _ _ h1)).trans (adv_shut H _ r)
      rw [if_neg c] at h; clear c
      by_cases c : pIs L wMake p = true
      · rw [if_pos c] at h
        simp only [Option.bind_eq_some_iff] at h
        obtain ⟨⟨y, r⟩, h1, h2⟩ := h
        have h0 : Went p (pHead L p) := by
          unfold pHead; split
          · exact (went_is c).trans (adv_fail 5 _)
          · exact went_is c
        have hk := h0.trans (adv_kind H n _ h1)
        split at h2
        · simp only [Option.map_eq_some_iff] at h2
          obtain ⟨⟨z, u⟩, h3, h4⟩ := h2
          cases h4
          exact ((hk.trans (adv_open H _ r)).trans (a1 _ _ _ _ h3)).trans (adv_shut H _ u)
        · cases h2
          exact (hk.trans (adv_open H _ r)).trans (adv_shut H _ _)
      rw [if_neg c] at h
      cases h; exact .inl (bad_fail (by decide) p)
/-- How much there is to do. -/
def mu (L : List Tok) (p : PS) : Nat := if p.bad then 0 else L.length - p.a
theorem mu_le {p q : PS} {e : Int} (h : Adv L p q e) : mu L q ≤ mu L p := by
  unfold mu
  by_cases c : p.bad = true
  · rw [bad_f (h.b c), if_pos c, if_pos c]; exact Nat.le_refl _
  · rw [if_neg c]
    split
    · omega
    · have := h.a; omega
theorem mu_lt {p q : PS} (h : Went p q) (hp : p.bad = false) (hv : p.a < L.length) : mu L q + 1 ≤ mu L p := by
  unfold mu
  rw [hp]
  rcases h with h | h
  · rw [if_pos h]; simp; omega
  · split <;> simp <;> omega
theorem mu_went {p q : PS} {e : Int} (h : Went p q) (k : Adv L p q e) (hv : p.a < L.length) : 12 * mu L q + 1 ≤ 12 * mu L p + 1 ∧ (mu L q = 0 ∨ mu L q + 1 ≤ mu L p) := by
  refine ⟨by have := mu_le k; omega, ?_⟩
  by_cases c : p.bad = true
  · left
    have := mu_le k
    unfold mu at this ⊢
    rw [c] at this
    simp at this ⊢
    exact this
  · exact .inr (mu_lt h (by simpa using c) hv)
theorem fuel_kind (H : LW L) : ∀ (n : Nat) (p : PS), p.a < L.length → mu L p + 1 ≤ n → (pKind L n p).isSome = true
  | 0, p, _, h => by omega
  | n + 1, p, hv, h => by
    rw [pKind]
    by_cases c : pIs L [91] p = true
    · have hm := mu_lt (went_open c) (is_k c).1 hv
      have := fuel_kind H n (pOpen L [91] p) ((adv_open H _ p).v hv) (by omega)
      repeat' split
      all_goals first | rfl | (rw [Option.isSome_map]; exact this)
    · repeat' split
      all_goals first | rfl | (rename_i hh; exact absurd hh c)
end
end Go.Proofs.YtllbpdllkkcajaaGreatDoor
namespace Go.Proofs.YtllbpdllkkcajaaGreatDoor
open Go.RowKit
section
variable {L : List Tok}
theorem op_bad {lvl : Nat} {p : PS} (h : ¬ pOp L lvl p = 0) : p.bad = false ∧ (tk L p).k ≠ 8 := by
  unfold pOp at h
  split at h
  · exact absurd rfl h
  · rename_i c
    simp only [Bool.or_eq_true, Bool.not_eq_true', beq_eq_false_iff_ne, not_or] at c
    exact ⟨by simpa using c.1, by have := c.2; simp at this; omega⟩
def FuelE (L : List Tok) (n : Nat) : Prop :=
  (∀ lvl p, p.a < L.length → 12 * mu L p + 3 + (7 - lvl) ≤ n → (pBin L n lvl p).isSome = true) ∧ (∀ lvl x p, p.a < L.length → 12 * mu L p + 1 ≤ n → (pBinL L n lvl x p).isSome = true) ∧
  (∀ p, p.a < L.length → 12 * mu L p + 2 ≤ n → (pUn L n p).isSome = true) ∧ (∀ x p, p.a < L.length → 12 * mu L p + 1 ≤ n → (pPost L n x p).isSome = true) ∧
  (∀ p, p.a < L.length → 12 * mu L p + 1 ≤ n → (pAtom L n p).isSome = true) ∧ (∀ f acc p, p.a < L.length → 12 * mu L p + 10 ≤ n → (pArgs L n f acc p).isSome = true)
theorem some_bind {α β : Type} {o : Option α} {f : α → Option β} (h : o.isSome = true) (k : ∀ x, o = some x → (f x).isSome = true) : (o.bind f).isSome = true := by
  cases o with
  | none => cases h
  | some x => exact k x rfl
theorem some_map {α β : Type} {o : Option α} {f : α → β} (h : o.isSome = true) : (o.map f).isSome = true := by rw [Option.isSome_map]; exact h
theorem is_x {s : List UInt8} {p : PS} (h : pIs L s p = true) : (tk L p).x = s := by
  unfold pIs at h; simp only [Bool.and_eq_true, beq_iff_eq] at h; exact h.2
theorem mu_pos {p : PS} (hp : p.bad = false) (hv : p.a < L.length) : 1 ≤ mu L p := by unfold mu; rw [hp]; simp; omega
theorem fuelE (H : LW L) : ∀ n, FuelE L n
  | 0 => ⟨fun _ _ _ h => by omega, fun _ _ _ _ h => by omega, fun _ _ h => by omega, fun _ _ _ h => by omega, fun _ _ h => by omega, fun _ _ _ _ h => by omega⟩
  | n + 1 => by
    obtain ⟨i1, i2, i3, i4, i5, i6⟩ := fuelE H n
    obtain ⟨a1, a2, a3, a4, a5, a6⟩ := advE H n
    obtain ⟨w1, w3, w5⟩ := wentE H n
    refine ⟨fun lvl p hv hn => ?_, fun lvl x p hv hn => ?_, fun p hv hn => ?_, fun x p hv hn => ?_, fun p hv hn => ?_, fun f acc p hv hn => ?_⟩
    · rw [pBin]
      split
      · exact i3 p hv (by omega)
      · refine some_bind (i1 _ p hv (by omega)) fun r hr => ?_
        have A := a1 _ _ _ _ hr
        exact i2 _ _ _ (A.v hv) (by have := mu_le A; omega)
    · rw [pBinL]
      split
      · rfl
      · rename_i c
        have hm := mu_lt (went_pass (op_bad c).2) (op_bad c).1 hv
        have hw := (adv_pass H p).v hv
        refine some_bind (i1 _ _ hw (by omega)) fun r hr => ?_
        have A := a1 _ _ _ _ hr
        split
        · rfl
        · exact i2 _ _ _ (A.v hw) (by have := mu_le A; omega)
    · rw [pUn]
      split
      · rename_i c
        have hm := mu_lt (went_open c) (is_k c).1 hv
        rw [is_x c]
        exact some_map (i3 _ ((adv_open H _ p).v hv) (by omega))
      · split
        · rename_i c
          have hm := mu_lt (went_open c) (is_k c).1 hv
          rw [is_x c]
          exact some_map (i3 _ ((adv_open H _ p).v hv) (by omega))
        · refine some_bind (i5 p hv (by omega)) fun r hr => ?_
          have A := a5 _ _ _ hr
          exact i4 _ _ (A.v hv) (by have := mu_le A; omega)
    · rw [pPost]
      split
      · rename_i c
        have hm := mu_lt (went_open c) (is_k c).1 hv
        have hw := (adv_open H [91] p).v hv
        refine some_bind (i1 _ _ hw (by omega)) fun r hr => ?_
        have A := (a1 _ _ _ _ hr).trans (adv_shut H [93] r.2)
        exact i4 _ _ (A.v hw) (by have := mu_le A; omega)
      · split
        · rename_i c
          have hm := mu_lt (went_is c) (is_k c).1 hv
          have A := (adv_pass H p).trans (adv_word H 1 _)
          have := mu_le (adv_word H 1 (pPass L p))
          exact i4 _ _ (A.v hv) (by omega)
        · rfl
    · rw [pAtom]
      have hw := (adv_pass H p).v hv
      by_cases c0 : p.bad = true
      · rw [if_pos c0]; rfl
      rw [if_neg c0]
      have hb : p.bad = false := by simpa using c0
      clear c0
      by_cases c1 : (tk L p).k = 3
      · rw [if_pos c1]; rfl
      rw [if_neg c1]
      clear c1
      by_cases c2 : (tk L p).k = 4
      · rw [if_pos c2]; rfl
      rw [if_neg c2]
      clear c2
      by_cases c3 : (tk L p).k = 5
      · rw [if_pos c3]; rfl
      rw [if_neg c3]
      clear c3
      by_cases c4 : pIs L wTrue p = true
      · rw [if_pos c4]; rfl
      rw [if_neg c4]
      clear c4
      by_cases c5 : pIs L wFalse p = true
      · rw [if_pos c5]; rfl
      rw [if_neg c5]
      clear c5
      by_cases c6 : pIs L wNil p = true
      · rw [if_pos c6]; rfl
      rw [if_neg c6]
      clear c6
      by_cases c : (tk L p).k = 1
      · rw [if_pos c]
        have hm := mu_lt (went_pass (L := L) (p := p) (by omega)) hb hv
        by_cases c2 : pIs L [40] (pPass L p) = true
        · rw [if_pos c2]
          have hm2 := mu_lt (went_open c2) (is_k c2).1 hw
          exact some_map (i6 true [] _ ((adv_open H [40] _).v hw) (by omega))
        · rw [if_neg c2]; rfl
      rw [if_neg c]; clear c
      by_cases c : pIs L [40] p = true
      · rw [if_pos c]
        have hm := mu_lt (went_open c) (is_k c).1 hv
        exact some_map (i1 1 _ ((adv_open H [40] p).v hv) (by omega))
      rw [if_neg c]; clear c
      by_cases c3 : pIs L wMake p = true
      · rw [if_pos c3]
        have hm := mu_lt (went_is c3) (is_k c3).1 hv
        have h0 : Adv L p (pHead L p) 0 := by
          unfold pHead; split
          · exact ((adv_pass H p).trans (adv_fail 5 _)).of (by omega)
          · exact adv_pass H p
        have hq : Adv L (pPass L p) (pHead L p) 0 := by
          unfold pHead; split
          · exact adv_fail 5 _
          · exact Adv.refl _
        have := mu_le hq
        refine some_bind (fuel_kind H n _ (h0.v hv) (by omega)) fun r hr => ?_
        have A := adv_kind H n _ hr
        split
        · have B := adv_open H [40] r.2
          exact some_map (i1 _ _ (B.v (A.v (h0.v hv))) (by have := mu_le A; have := mu_le B; omega))
        · rfl
      rw [if_neg c3]; rfl
    · rw [pArgs]
      split
      · rfl
      · rename_i c
        have hb : p.bad = false := by
          cases e : p.bad with
          | false => rfl
          | true => exfalso; apply c; rw [e]; rfl
        have h0 : Adv L p (if f = true then p else pMust L [44] p) 0 := by
          split
          · exact Adv.refl p
          · exact adv_must H _ p
        have hm := mu_le h0
        have hv1 := h0.v hv
        refine some_bind (i1 _ _ hv1 (by omega)) fun r hr => ?_
        have A := a1 _ _ _ _ hr
        have W := (mu_went (w1 _ _ _ _ hr) A hv1).2
        have := mu_pos hb hv
        exact i6 _ _ _ (A.v hv1) (by omega)
end
end Go.Proofs.YtllbpdllkkcajaaGreatDoor
namespace Go.Proofs.YtllbpdllkkcajaaGreatDoor
open Go.RowKit
section
variable {L : List Tok}
theorem went_word {k : Int} (hk : k ≠ 8) (p : PS) : Went p (pWord L k p) := by
  unfold pWord; split
  · exact .inl (bad_fail (by decide) p)
  · rename_i c
    refine went_pass ?_
    simp only [Bool.or_eq_true, Bool.not_eq_true', beq_eq_false_iff_ne, not_or] at c
    have := c.2
    simp at this; omega
theorem went_must (s : List UInt8) (p : PS) : Went p (pMust L s p) := by
  unfold pMust; split
  · exact went_is (by assumption)
  · exact .inl (bad_fail (by decide) p)
theorem went_open' (s : List UInt8) (p : PS) : Went p (pOpen L s p) := by
  by_cases c : pIs L s p = true
  · exact went_open c
  · unfold pOpen
    have : ¬ (pIs L s p && p.d == 40) = true := by simp [c]
    simp only [this]
    exact went_must s p
theorem adv_typed (H : LW L) {n : Nat} {k : Int} {p q : PS} {t : Tr} (h : pTyped L n k p = some (t, q)) : Adv L p q 0 ∧ Went p q := by
  unfold pTyped at h
  simp only [Option.map_eq_some_iff] at h
  obtain ⟨⟨y, r⟩, h1, h2⟩ := h
  cases h2
  have A := (adv_must H [58] (pWord L 1 p)).trans (adv_kind H n _ h1)
  exact ⟨((adv_word H 1 p).trans A).of (by omega), (went_word (by decide) p).trans A⟩
theorem fuel_typed (H : LW L) {n : Nat} {k : Int} {p : PS} (hv : p.a < L.length) (hn : mu L p + 1 ≤ n) : (pTyped L n k p).isSome = true := by
  unfold pTyped
  have A := (adv_word H 1 p).trans (adv_must H [58] _)
  exact some_map (fuel_kind H n _ (A.v hv) (by have := mu_le A; omega))
theorem adv_plain (H : LW L) {n : Nat} {u : Tok} {p q : PS} {t : Tr} (h : pPlain L n u p = some (t, q)) : Adv L p q 0 ∧ Went p q := by
  unfold pPlain at h
  simp only [Option.bind_eq_some_iff] at h
  obtain ⟨⟨y, r⟩, h1, h2⟩ := h
  have A := (advE H n).1 _ _ _ _ h1
  have W := (wentE H n).1 _ _ _ _ h1
  dsimp only at h2
  have B : Adv L r q 0 := by
    split at h2
    · cases h2; exact Adv.refl _
    · split at h2
      · simp only [Option.map_eq_some_iff] at h2
        obtain ⟨⟨z, v⟩, h3, h4⟩ := h2
        cases h4
        exact (((adv_pass H r).trans ((advE H n).1 _ _ _ _ h3)).trans (adv_must H [59] v)).of (by omega)
      · split at h2
        · cases h2; exact ((adv_fail 5 r).trans (adv_must H [59] _)).of (by omega)
        · cases h2; exact adv_must H [59] r
  exact ⟨(A.trans B).of (by omega), W.trans B⟩
theorem fuel_plain (H : LW L) {n : Nat} {u : Tok} {p : PS} (hv : p.a < L.length) (hn : 12 * mu L p + 9 ≤ n) : (pPlain L n u p).isSome = true := by
  unfold pPlain
  refine some_bind ((fuelE H n).1 1 p hv (by omega)) fun r hr => ?_
  have A := (advE H n).1 _ _ _ _ hr
  have B := A.trans (adv_pass H r.2)
  dsimp only
  split
  · rfl
  · split
    · exact some_map ((fuelE H n).1 1 _ (B.v hv) (by have := mu_le B; omega))
    · split <;> rfl
def AdvS (L : List Tok) (n : Nat) : Prop :=
  (∀ p t q, pStat L n p = some (t, q) → Adv L p q 0 ∧ Went p q) ∧ (∀ p t q, pBlock L n p = some (t, q) → Adv L p q 0 ∧ Went p q) ∧ (∀ acc p t q, pStats L n acc p = some (t, q) → Adv L p q 0)
theorem advS (H : LW L) : ∀ n, AdvS L n
  | 0 => ⟨fun _ _ _ h => (by cases h), fun _ _ _ h => (by cases h), fun _ _ _ _ h => (by cases h)⟩
  | n + 1 => by
    obtain ⟨i1, i2, i3⟩ := advS H n
    have aB := (advE H n).1
    refine ⟨fun p t q h => ?_, fun p t q h => ?_, fun acc p t q h => ?_⟩
    · rw [pStat] at h
      dsimp only at h
      by_cases c : pIs L wVar p = true
      · rw [if_pos c] at h
        simp only [Option.bind_eq_some_iff, Option.map_eq_some_iff] at h
        obtain ⟨⟨y, r⟩, h1, ⟨z, v⟩, h2, h3⟩ := h
        cases h3
        have A := (((((adv_word H 1 (pPass L p)).trans (adv_must H [58] _)).trans (adv_kind H n _ h1)).trans (adv_must H [61] r)).trans (aB _ _ _ _ h2)).trans (adv_must H [59] v)
        exact ⟨((adv_pass H p).trans A).of (by omega), (went_is c).trans A⟩
      rw [if_neg c] at h; clear c
      by_cases c : pIs L wIf p = true
      · rw [if_pos c] at h
        simp only [Option.bind_eq_some_iff] at h
        obtain ⟨⟨y, r⟩, h1, ⟨z, v⟩, h2, h3⟩ := h
        have A := (aB _ _ _ _ h1).trans (i2 _ _ _ h2).1
        have B : Adv L v q 0 := by
          split at h3
          · simp only [Option.map_eq_some_iff] at h3
            obtain ⟨⟨e, w⟩, h4, h5⟩ := h3
            cases h5
            exact ((adv_pass H v).trans (i2 _ _ _ h4).1).of (by omega)
          · cases h3; exact Adv.refl _
        exact ⟨((adv_pass H p).trans (A.trans B)).of (by omega), (went_is c).trans (A.trans B)⟩
      rw [if_neg c] at h; clear c
      by_cases c : pIs L wWhile p = true
      · rw [if_pos c] at h
        simp only [Option.bind_eq_some_iff, Option.map_eq_some_iff] at h
        obtain ⟨⟨y, r⟩, h1, ⟨z, v⟩, h2, h3⟩ := h
        cases h3
        have A := (aB _ _ _ _ h1).trans (i2 _ _ _ h2).1
        exact ⟨((adv_pass H p).trans A).of (by omega), (went_is c).trans A⟩
      rw [if_neg c] at h; clear c
      by_cases c : pIs L wReturn p = true
      · rw [if_pos c] at h
        split at h
        · cases h
          exact ⟨((adv_pass H p).trans (adv_must H [59] _)).of (by omega), (went_is c).trans (adv_must H [59] _)⟩
        · simp only [Option.map_eq_some_iff] at h
          obtain ⟨⟨y, r⟩, h1, h3⟩ := h
          cases h3
          have A := (aB _ _ _ _ h1).trans (adv_must H [59] r)
          exact ⟨((adv_pass H p).trans A).of (by omega), (went_is c).trans A⟩
      rw [if_neg c] at h; clear c
      by_cases c : pIs L wPrint p = true
      · rw [if_pos c] at h
        simp only [Option.map_eq_some_iff] at h
        obtain ⟨⟨y, r⟩, h1, h3⟩ := h
        cases h3
        have A := (aB _ _ _ _ h1).trans (adv_must H [59] r)
        exact ⟨((adv_pass H p).trans A).of (by omega), (went_is c).trans A⟩
      rw [if_neg c] at h
      exact adv_plain H h
    · rw [pBlock] at h
      simp only [Option.map_eq_some_iff] at h
      obtain ⟨⟨y, r⟩, h1, h3⟩ := h
      cases h3
      have A := (i3 _ _ _ _ h1).trans (adv_shut H [125] r)
      exact ⟨((adv_open H [123] p).trans A).of (by omega), (went_open' [123] p).trans A⟩
    · rw [pStats] at h
      split at h
      · cases h; exact Adv.refl _
      · simp only [Option.bind_eq_some_iff] at h
        obtain ⟨⟨y, r⟩, h1, h2⟩ := h
        exact ((i1 _ _ _ h1).1.trans (i3 _ _ _ _ h2)).of (by omega)
def FuelS (L : List Tok) (n : Nat) : Prop :=
  (∀ p, p.a < L.length → 12 * mu L p + 10 ≤ n → (pStat L n p).isSome = true) ∧ (∀ p, p.a < L.length → 12 * mu L p + 12 ≤ n → (pBlock L n p).isSome = true) ∧
  (∀ acc p, p.a < L.length → 12 * mu L p + 11 ≤ n → (pStats L n acc p).isSome = true)
theorem fuelS (H : LW L) : ∀ n, FuelS L n
  | 0 => ⟨fun _ _ h => by omega, fun _ _ h => by omega, fun _ _ _ h => by omega⟩
  | n + 1 => by
    obtain ⟨i1, i2, i3⟩ := fuelS H n
    obtain ⟨s1, s2, s3⟩ := advS H n
    have aB := (advE H n).1
    have fB := (fuelE H n).1
    refine ⟨fun p hv hn => ?_, fun p hv hn => ?_, fun acc p hv hn => ?_⟩
    · rw [pStat]
      dsimp only
      by_cases hb : p.bad = true
      · have : ∀ s, pIs L s p = false := fun s => bad_is hb
        simp only [this]
        exact fuel_plain H hv (by omega)
      have hb : p.bad = false := by simpa using hb
      have hw := (adv_pass H p).v hv
      have hp := mu_pos hb hv
      have mp : (tk L p).k ≠ 8 → mu L (pPass L p) + 1 ≤ mu L p := fun h => mu_lt (went_pass h) hb hv
      by_cases c : pIs L wVar p = true
      · rw [if_pos c]
        have := mp (is_k c).2
        have A := (adv_word H 1 (pPass L p)).trans (adv_must H [58] _)
        have := mu_le A
        refine some_bind (fuel_kind H n _ (A.v hw) (by omega)) fun r hr => ?_
        have B := (adv_kind H n _ hr).trans (adv_must H [61] r.2)
        exact some_map (fB 1 _ (B.v (A.v hw)) (by have := mu_le B; omega))
      rw [if_neg c]; clear c
      by_cases c : pIs L wIf p = true
      · rw [if_pos c]
        have := mp (is_k c).2
        refine some_bind (fB 1 _ hw (by omega)) fun r hr => ?_
        have A := aB _ _ _ _ hr
        have := mu_le A
        refine some_bind (i2 _ (A.v hw) (by omega)) fun r hr => ?_
        have B := (s2 _ _ _ hr).1.trans (adv_pass H r.2)
        split
        · exact some_map (i2 _ (B.v (A.v hw)) (by have := mu_le B; omega))
        · rfl
      rw [if_neg c]; clear c
      by_cases c : pIs L wWhile p = true
      · rw [if_pos c]
        have := mp (is_k c).2
        refine some_bind (fB 1 _ hw (by omega)) fun r hr => ?_
        have A := aB _ _ _ _ hr
        exact some_map (i2 _ (A.v hw) (by have := mu_le A; omega))
      rw [if_neg c]; clear c
      by_cases c : pIs L wReturn p = true
      · rw [if_pos c]
        have := mp (is_k c).2
        split
        · rfl
        · exact some_map (fB 1 _ hw (by omega))
      rw [if_neg c]; clear c
      by_cases c : pIs L wPrint p = true
      · rw [if_pos c]
        have := mp (is_k c).2
        exact some_map (fB 1 _ hw (by omega))
      rw [if_neg c]
      exact fuel_plain H hv (by omega)
    · rw [pBlock]
      have A := adv_open H [123] p
      exact some_map (i3 _ _ (A.v hv) (by have := mu_le A; omega))
    · rw [pStats]
      split
      · rfl
      · rename_i c
        have hb : p.bad = false := by
          cases e : p.bad with
          | false => rfl
          | true => exfalso; apply c; rw [e]; rfl
        have := mu_pos hb hv
        refine some_bind (i1 _ hv (by omega)) fun r hr => ?_
        obtain ⟨A, W⟩ := s1 _ _ _ hr
        have := (mu_went W A hv).2
        exact i3 _ _ (A.v hv) (by omega)
theorem adv_fields (H : LW L) : ∀ (n : Nat) (acc : List Tr) (p : PS) {l : List Tr} {q : PS}, pFields L n acc p = some (l, q) → Adv L p q 0
  | 0, _, _, _, _, h => by cases h
  | n + 1, acc, p, l, q, h => by
    rw [pFields] at h
    split at h
    · cases h; exact Adv.refl _
    · simp only [Option.bind_eq_some_iff] at h
      obtain ⟨⟨y, r⟩, h1, h2⟩ := h
      exact (((adv_typed H h1).1.trans (adv_must H [59] r)).trans (adv_fields H n _ _ h2)).of (by omega)
theorem fuel_fields (H : LW L) : ∀ (n : Nat) (acc : List Tr) (p : PS), p.a < L.length → mu L p + 2 ≤ n → (pFields L n acc p).isSome = true
  | 0, _, _, _, h => by omega
  | n + 1, acc, p, hv, hn => by
    rw [pFields]
    split
    · rfl
    · rename_i c
      have hb : p.bad = false := by
        cases e : p.bad with
        | false => rfl
        | true => exfalso; apply c; rw [e]; rfl
      have := mu_pos hb hv
      refine some_bind (fuel_typed H hv (by omega)) fun r hr => ?_
      obtain ⟨A, W⟩ := adv_typed H hr
      have A2 := A.trans (adv_must H [59] r.2)
      have := (mu_went (W.trans (adv_must H [59] r.2)) A2 hv).2
      exact fuel_fields H n _ _ (A2.v hv) (by omega)
theorem adv_params (H : LW L) : ∀ (n : Nat) (f : Bool) (acc : List Tr) (p : PS) {l : List Tr} {q : PS}, pParams L n f acc p = some (l, q) → Adv L p q 0
  | 0, _, _, _, _, _, h => by cases h
  | n + 1, f, acc, p, l, q, h => by
    rw [pParams] at h
    split at h
    · cases h; exact Adv.refl _
    · simp only [Option.bind_eq_some_iff] at h
      obtain ⟨⟨y, r⟩, h1, h2⟩ := h
      have h0 : Adv L p (if f = true then p else pMust L [44] p) 0 := by
        split
        · exact Adv.refl p
        · exact adv_must H _ p
      exact ((h0.trans (adv_typed H h1).1).trans (adv_params H n _ _ _ h2)).of (by omega)
theorem fuel_params (H : LW L) : ∀ (n : Nat) (f : Bool) (acc : List Tr) (p : PS), p.a < L.length → mu L p + 2 ≤ n → (pParams L n f acc p).isSome = true
  | 0, _, _, _, _, h => by omega
  | n + 1, f, acc, p, hv, hn => by
    rw [pParams]
    split
    · rfl
    · rename_i c
      have hb : p.bad = false := by
        cases e : p.bad with
        | false => rfl
        | true => exfalso; apply c; rw [e]; rfl
      have h0 : Adv L p (if f = true then p else pMust L [44] p) 0 := by
        split
        · exact Adv.refl p
        · exact adv_must H _ p
      have := mu_pos hb hv
      have := mu_le h0
      refine some_bind (fuel_typed H (h0.v hv) (by omega)) fun r hr => ?_
      obtain ⟨A, W⟩ := adv_typed H hr
      have := (mu_went W A (h0.v hv)).2
      exact fuel_params H n _ _ _ (A.v (h0.v hv)) (by omega)
theorem adv_record (H : LW L) {n : Nat} {p q : PS} {t : Tr} (h : pRecord L n p = some (t, q)) : Adv L p q 0 ∧ Went p q := by
  unfold pRecord at h
  simp only [Option.map_eq_some_iff] at h
  obtain ⟨⟨y, r⟩, h1, h2⟩ := h
  cases h2
  have A := (((adv_word H 2 (pMust L wRec p)).trans (adv_open H [123] _)).trans (adv_fields H n _ _ h1)).trans (adv_shut H [125] r)
  exact ⟨((adv_must H wRec p).trans A).of (by omega), (went_must wRec p).trans A⟩
theorem fuel_record (H : LW L) {n : Nat} {p : PS} (hv : p.a < L.length) (hn : mu L p + 2 ≤ n) : (pRecord L n p).isSome = true := by
  unfold pRecord
  have A := ((adv_must H wRec p).trans (adv_word H 2 _)).trans (adv_open H [123] _)
  exact some_map (fuel_fields H n _ _ (A.v hv) (by have := mu_le A; omega))
theorem adv_fn (H : LW L) {n : Nat} {p q : PS} {t : Tr} (h : pFn L n p = some (t, q)) : Adv L p q 0 ∧ Went p q := by
  unfold pFn at h
  simp only [Option.map_eq_some_iff, Option.bind_eq_some_iff] at h
  obtain ⟨⟨y, r⟩, h1, ⟨z, v⟩, h2, ⟨e, w⟩, h3, h4⟩ := h
  cases h4
  have B : Adv L (pShut L [41] r) v 0 := by
    split at h2
    · exact ((adv_pass H _).trans (adv_kind H n _ h2)).of (by omega)
    · cases h2; exact Adv.refl _
  have A := (((((adv_word H 1 (pMust L wFn p)).trans (adv_open H [40] _)).trans (adv_params H n _ _ _ h1)).trans (adv_shut H [41] r)).trans B).trans ((advS H n).2.1 _ _ _ h3).1
  exact ⟨((adv_must H wFn p).trans A).of (by omega), (went_must wFn p).trans A⟩
theorem fuel_fn (H : LW L) {n : Nat} {p : PS} (hv : p.a < L.length) (hn : 12 * mu L p + 12 ≤ n) : (pFn L n p).isSome = true := by
  unfold pFn
  have A := ((adv_must H wFn p).trans (adv_word H 1 _)).trans (adv_open H [40] _)
  refine some_bind (fuel_params H n _ _ _ (A.v hv) (by have := mu_le A; omega)) fun r hr => ?_
  have B := (A.trans (adv_params H n _ _ _ hr)).trans (adv_shut H [41] r.2)
  have C := B.trans (adv_pass H _)
  have k : ((if pIs L [58] (pShut L [41] r.2) then pKind L n (pPass L (pShut L [41] r.2)) else some (Tr.nd 14 0 0 0 [] [], pShut L [41] r.2))).isSome = true := by
    split
    · exact fuel_kind H n _ (C.v hv) (by have := mu_le C; omega)
    · rfl
  refine some_bind k fun y hy => ?_
  have D : Adv L (pShut L [41] r.2) y.2 0 := by
    split at hy
    · exact ((adv_pass H _).trans (adv_kind H n _ hy)).of (by omega)
    · cases hy; exact Adv.refl _
  have E := B.trans D
  exact some_map ((fuelS H n).2.1 _ (E.v hv) (by have := mu_le E; omega))
theorem adv_progL (H : LW L) : ∀ (n : Nat) (acc : List Tr) (p : PS) {l : List Tr} {q : PS}, pProgL L n acc p = some (l, q) → Adv L p q 0
  | 0, _, _, _, _, h => by cases h
  | n + 1, acc, p, l, q, h => by
    rw [pProgL] at h
    split at h
    · cases h; exact Adv.refl _
    split at h
    · simp only [Option.bind_eq_some_iff] at h
      obtain ⟨⟨y, r⟩, h1, h2⟩ := h
      exact ((adv_record H h1).1.trans (adv_progL H n _ _ h2)).of (by omega)
    split at h
    · simp only [Option.bind_eq_some_iff] at h
      obtain ⟨⟨y, r⟩, h1, h2⟩ := h
      exact ((adv_fn H h1).1.trans (adv_progL H n _ _ h2)).of (by omega)
    · exact ((adv_fail 5 p).trans (adv_progL H n _ _ h)).of (by omega)
theorem fuel_progL (H : LW L) : ∀ (n : Nat) (acc : List Tr) (p : PS), p.a < L.length → 12 * mu L p + 13 ≤ n → (pProgL L n acc p).isSome = true
  | 0, _, _, _, h => by omega
  | n + 1, acc, p, hv, hn => by
    rw [pProgL]
    split
    · rfl
    · rename_i c
      have hb : p.bad = false := by
        cases e : p.bad with
        | false => rfl
        | true => exfalso; apply c; rw [e]; rfl
      have := mu_pos hb hv
      split
      · refine some_bind (fuel_record H hv (by omega)) fun r hr => ?_
        obtain ⟨A, W⟩ := adv_record H hr
        have := (mu_went W A hv).2
        exact fuel_progL H n _ _ (A.v hv) (by omega)
      split
      · refine some_bind (fuel_fn H hv (by omega)) fun r hr => ?_
        obtain ⟨A, W⟩ := adv_fn H hr
        have := (mu_went W A hv).2
        exact fuel_progL H n _ _ (A.v hv) (by omega)
      · have A := adv_fail (L := L) 5 p
        have : mu L (pFail L 5 p) = 0 := by unfold mu; rw [if_pos (bad_fail (by decide) p)]
        exact fuel_progL H n _ _ (A.v hv) (by omega)
end
end Go.Proofs.YtllbpdllkkcajaaGreatDoor
namespace Go.Proofs.YtllbpdllkkcajaaGreatDoor
open Go.RowKit
attribute [local go_sem] says_tt says_ff th_need th_ite th_call th_callK th_load th_store th_mk th_new th_mks th_str says_ret says_again says_app BE.den IE.den SE.den LE.den AE.den CE.den PE.den VE.den KV.val Got.den Got.cnt exI allI exL allL Ctx.push Ctx.heap Ctx.cut Ctx.bare Ctx.mark Inc.blank List.getD_cons_zero List.getD_cons_succ List.cons_append List.nil_append List.append_nil List.map_cons List.map_nil List.replicate_zero List.replicate_succ specOf specL dynId ltB_t leB_t ltB_f leB_f slc_val slc_nil slc_inj pt_val pt_nil hle_noHeap hle_refl hread_set hwrite_set set_same set_set noHeap_at B_inj ones_nil and_assoc
theorem tcs_drop (l : List Tok) (j : Nat) : (tcs l).drop (j * 5) = tcs (l.drop j) := by
  induction l generalizing j with
  | nil => simp [tcs]
  | cons a l ih =>
    cases j with
    | zero => simp
    | succ j =>
      have : tcs (a :: l) = a.cs ++ tcs l := by simp [tcs]
      rw [this, show (j + 1) * 5 = a.cs.length + j * 5 by simp [Tok.cs]; omega, List.drop_append, List.drop_succ_cons, ← ih]
      simp
/-- A row of tokens. -/
def TS (h : Hp) (sl : Slc) (l : List Tok) : Prop := sl.n = l.length ∧ (l = [] ∨ ∃ b c T r, sl = ⟨some (b, 0), l.length, c⟩ ∧ h b = some ⟨tcs l ++ r, T⟩)
theorem TS.of_own {h : Hp} {sl : Slc} {l : List Tok} {T : TypeId} (ho : OwnS h sl (tcs l) T 5) (hn : sl.n = l.length) : TS h sl l := by
  refine ⟨hn, ?_⟩
  rcases ho with ⟨_, hx⟩ | ⟨b, o, h1, h2, _, h4, h5, _, h7⟩
  · left
    cases l with
    | nil => rfl
    | cons a l => have := congrArg List.length hx; rw [tcs_len] at this; simp at this
  · right
    obtain ⟨cs, T'⟩ := o
    refine ⟨b, sl.c, T', cs.drop (sl.n * 5), ?_, ?_⟩
    · rw [← hn, ← h1]
    · rw [h2, h7]; simp only [List.take_append_drop]
theorem TS.le {h k : Hp} {sl : Slc} {l : List Tok} (ht : TS h sl l) (hl : HLe h k) : TS k sl l := by
  refine ⟨ht.1, ?_⟩
  rcases ht.2 with h0 | ⟨b, c, T, r, h1, h2⟩
  · exact .inl h0
  · exact .inr ⟨b, c, T, r, h1, hl _ _ h2⟩
theorem TS.read {h : Hp} {b : Nat} {l : List Tok} {r : List Value} {T : TypeId} (hb : h b = some ⟨tcs l ++ r, T⟩) {j : Nat} (hj : j < l.length) :
    hread h (some (b, j * 5)) 5 = some [.int .u8 l[j].k, .int .i64 l[j].l, .int .i64 l[j].c, .int .i64 l[j].n, .string (B l[j].x)] := by
  have hlen := tcs_len l
  rw [hread_of hb, if_pos (by simp only [List.length_append]; omega)]
  simp only
  rw [List.drop_append_of_le_length (by omega), tcs_drop, List.drop_eq_getElem_cons hj]
  rw [tcs, List.flatMap_cons]
  rfl
/-- Tokens, as they stand from a place on. -/
def Pls (s : List UInt8) : Nat → List Tok → Prop
  | _, [] => False
  | i, t :: l => i + ski false s i ≤ s.length ∧ (t.l, t.c) = pl s (i + ski false s i) ∧
    ((i + ski false s i = s.length ∧ t.k = 8 ∧ l = []) ∨
      (i + ski false s i < s.length ∧ (one s (i + ski false s i)).f = 0 ∧ t.k = (one s (i + ski false s i)).k ∧ t.n = (one s (i + ski false s i)).n ∧ t.x = (one s (i + ski false s i)).x ∧ t.k ≠ 8 ∧ l ≠ [] ∧ Pls s (one s (i + ski false s i)).e l))
theorem nfin_k {k most : Int} {d : List UInt8} {e : Nat} (h : (nfin k most d e).1 = 0) : (nfin k most d e).2.1 = k := by
  unfold nfin at h ⊢
  split
  · rfl
  · rename_i h1; rw [if_neg h1] at h; exact absurd h (by decide)
theorem one_k {s : List UInt8} {i : Nat} (h : (one s i).f = 0) : (one s i).k ≠ 8 := by
  unfold one at h ⊢
  split
  · simp only; unfold nameK; split
    · decide
    · split <;> decide
  · rename_i h1
    rw [if_neg h1] at h
    split
    · rename_i h2
      rw [if_pos h2] at h
      simp only at h ⊢
      unfold nm at h ⊢
      split
      · rename_i h3; rw [if_pos h3] at h; rw [nfin_k h]; decide
      · rename_i h3
        rw [if_neg h3] at h
        split
        · rename_i h4; rw [if_pos h4] at h; rw [nfin_k h]; decide
        · rename_i h4; rw [if_neg h4] at h; exact absurd h (by decide)
    · rename_i h2
      rw [if_neg h2] at h
      split
      · rename_i h3
        rw [if_pos h3] at h
        cases hq : rdq (s.drop i) with
        | none => rw [hq] at h; simp at h
        | some r => simp
      · rename_i h3
        rw [if_neg h3] at h
        split
        · rename_i h4; rw [if_pos h4] at h; simp at h
        · simp
theorem lexA_pls : ∀ (m : Nat) (s : List UInt8) (i : Nat) (acc : List Tok), i ≤ s.length → s.length < m + i → (lexA m s i (pl s i) acc).1.1 = 0 → ∃ l, (lexA m s i (pl s i) acc).2 = acc ++ l ∧ Pls s i l
  | 0, s, i, acc, hi, hm, _ => by omega
  | m + 1, s, i, acc, hi, hm, h => by
    have hj := ski_le (s := s) (i := i) false hi
    rw [lexA] at h ⊢
    rw [pl_add (Nat.le_add_right i _) hj] at h ⊢
    split
    · rename_i h1
      exact ⟨[_], rfl, hj, rfl, .inl ⟨by omega, rfl, rfl⟩⟩
    · rename_i h1
      rw [if_neg h1] at h
      split
      · rename_i h2
        rw [if_pos h2] at h
        obtain ⟨o1, o2, _⟩ := one_ok (by omega) h2
        rw [pl_add (by omega) o2] at h ⊢
        obtain ⟨l, hl, hp⟩ := lexA_pls m s _ _ o2 (by omega) h
        refine ⟨_ :: l, by rw [hl]; simp; rfl, hj, rfl, .inr ⟨by omega, h2, rfl, rfl, rfl, one_k h2, ?_, hp⟩⟩
        rintro rfl
        exact hp
      · rename_i h2
        rw [if_neg h2] at h
        exact absurd h h2
end Go.Proofs.YtllbpdllkkcajaaGreatDoor
namespace Go.Proofs.YtllbpdllkkcajaaGreatDoor
open Go.RowKit
/-- A token of a text, but the last one. -/
def TokIn (s : List UInt8) (t : Tok) : Prop := ∃ j, j < s.length ∧ (one s j).f = 0 ∧ t.k = (one s j).k ∧ t.n = (one s j).n ∧ t.x = (one s j).x ∧ t.k ≠ 8
theorem pls_lw {s : List UInt8} : ∀ {l : List Tok} {i : Nat}, Pls s i l → LW l ∧ ∀ t ∈ l, t.k = 8 ∨ TokIn s t
  | [], _, h => by cases h
  | t :: l, i, ⟨_, _, h3⟩ => by
    rcases h3 with ⟨_, h5, rfl⟩ | ⟨h4, h5, h6, h7, h8, h9, h10, h11⟩
    · refine ⟨⟨by simp, by simpa using h5⟩, fun u hu => ?_⟩
      rw [List.mem_singleton] at hu; subst hu; exact .inl h5
    · obtain ⟨⟨p, q⟩, r⟩ := pls_lw h11
      refine ⟨⟨by simp, ?_⟩, fun u hu => ?_⟩
      · obtain ⟨n, hn⟩ : ∃ n, l.length = n + 1 := ⟨l.length - 1, by omega⟩
        rw [List.length_cons, hn, Nat.add_sub_cancel, List.getD_cons_succ]
        rw [hn, Nat.add_sub_cancel] at q
        exact q
      · rcases List.mem_cons.mp hu with rfl | hu
        · exact .inr ⟨_, h4, h5, h6, h7, h8, h9⟩
        · exact r u hu
theorem pl_zero (s : List UInt8) : pl s 0 = (1, 1) := by simp [pl, sub]; rfl
theorem lexAll_pls {s : List UInt8} (h : (lexAll s).1.1 = 0) : Pls s 0 (lexAll s).2 := by
  unfold lexAll at h ⊢
  rw [← pl_zero s] at h ⊢
  obtain ⟨l, h1, h2⟩ := lexA_pls (s.length + 1) s 0 [] (Nat.zero_le _) (by omega) h
  rw [h1]; exact h2
end Go.Proofs.YtllbpdllkkcajaaGreatDoor
namespace Go.Proofs.YtllbpdllkkcajaaGreatDoor
open Go.RowKit
section
variable {L : List Tok}
/-- A node's place is a token's, but that of a result that isn't there. -/
def Plc (L : List Tok) (x : Nod) : Prop := (∃ a, a < L.length ∧ x.l = (L.getD a ⟨8, 0, 0, 0, []⟩).l ∧ x.c = (L.getD a ⟨8, 0, 0, 0, []⟩).c) ∨ (x.k = 14 ∧ x.l = 0 ∧ x.c = 0)
def PlcT (L : List Tok) (t : Tr) : Prop := ∀ x ∈ t.nods, Plc L x
def PlcS (L : List Tok) (l : List Tr) : Prop := ∀ x ∈ Tr.nodss l, Plc L x
/-- Of an expression. -/
def Kd (t : Tr) : Prop := 21 ≤ t.k ∧ t.k ≤ 32
def Tr.n (t : Tr) : Nat := t.nods.length
def Tr.ns (l : List Tr) : Nat := (Tr.nodss l).length
theorem nodss_app : ∀ a b : List Tr, Tr.nodss (a ++ b) = Tr.nodss a ++ Tr.nodss b
  | [], b => rfl
  | t :: a, b => by simp [Tr.nodss, nodss_app a b]
theorem nodss_nil : Tr.nodss [] = [] := rfl
theorem nodss_cons (t : Tr) (l : List Tr) : Tr.nodss (t :: l) = t.nods ++ Tr.nodss l := rfl
theorem n_nd (k : Int) (t : Tok) (n : Int) (x : List UInt8) (ks : List Tr) : (nd k t n x ks).n = Tr.ns ks + 1 := by simp [nd, Tr.n, Tr.ns, Tr.nods]
theorem ns_nil : Tr.ns [] = 0 := rfl
theorem ns_cons (t : Tr) (l : List Tr) : Tr.ns (t :: l) = t.n + Tr.ns l := by simp [Tr.n, Tr.ns, nodss_cons]
theorem ns_app (a b : List Tr) : Tr.ns (a ++ b) = Tr.ns a + Tr.ns b := by simp [Tr.ns, nodss_app]
theorem plcS_nil : PlcS L [] := fun _ h => by cases h
theorem plcS_cons {t : Tr} {l : List Tr} (h : PlcT L t) (k : PlcS L l) : PlcS L (t :: l) := fun x hx => by
  rw [nodss_cons] at hx
  rcases List.mem_append.1 hx with hx | hx
  · exact h x hx
  · exact k x hx
theorem plcS_app {a b : List Tr} (h : PlcS L a) (k : PlcS L b) : PlcS L (a ++ b) := fun x hx => by
  rw [nodss_app] at hx
  rcases List.mem_append.1 hx with hx | hx
  · exact h x hx
  · exact k x hx
theorem plcS_one {t : Tr} (h : PlcT L t) : PlcS L [t] := plcS_cons h plcS_nil
theorem plcT_nd {p : PS} (hv : p.a < L.length) {k n : Int} {x : List UInt8} {ks : List Tr} (h : PlcS L ks) : PlcT L (nd k (tk L p) n x ks) := fun y hy => by
  unfold nd at hy
  rw [Tr.nods] at hy
  rcases List.mem_cons.1 hy with rfl | hy
  · exact .inl ⟨p.a, hv, rfl, rfl⟩
  · exact h y hy
theorem bad_back {p q : PS} {e : Int} (h : Adv L p q e) (hq : q.bad = false) : p.bad = false := by
  cases c : p.bad with
  | false => rfl
  | true => rw [bad_f (h.b c), c] at hq; cases hq
theorem good_pass {p : PS} (h : (tk L p).k ≠ 8) : (pPass L p).a = p.a + 1 := by unfold pPass; rw [if_neg h]
theorem good_must {s : List UInt8} {p : PS} (h : (pMust L s p).bad = false) : pIs L s p = true ∧ pMust L s p = pPass L p ∧ (pMust L s p).a = p.a + 1 := by
  unfold pMust at h ⊢
  split at h
  · rename_i c
    rw [if_pos c]
    exact ⟨c, rfl, good_pass (is_k c).2⟩
  · rw [bad_fail (by decide) p] at h; cases h
theorem good_open {s : List UInt8} {p : PS} (h : (pOpen L s p).bad = false) : pIs L s p = true ∧ p.d ≠ 40 ∧ pOpen L s p = { pPass L p with d := (pPass L p).d + 1 } ∧ (pOpen L s p).a = p.a + 1 := by
  unfold pOpen at h ⊢
  by_cases c : (pIs L s p && p.d == 40) = true
  · simp only [c, if_true] at h
    have hb : (pFail L 6 p).bad = true := bad_fail (by decide) p
    have h' : (pMust L s (pFail L 6 p)).bad = false := h
    have := (good_must h').1
    rw [bad_is hb] at this; cases this
  · simp only [if_neg c] at h ⊢
    have h' : (pMust L s p).bad = false := h
    obtain ⟨h1, h2, h3⟩ := good_must h'
    refine ⟨h1, fun e => c (by rw [h1, e]; rfl), by rw [h2], h3⟩
theorem good_shut {s : List UInt8} {p : PS} (h : (pShut L s p).bad = false) : pIs L s p = true ∧ pShut L s p = { pPass L p with d := (pPass L p).d - 1 } ∧ (pShut L s p).a = p.a + 1 := by
  have h' : (pMust L s p).bad = false := h
  obtain ⟨h1, h2, h3⟩ := good_must h'
  exact ⟨h1, by unfold pShut; rw [h2], h3⟩
theorem good_word {k : Int} (hk : k ≠ 8) {p : PS} (h : (pWord L k p).bad = false) : p.bad = false ∧ (tk L p).k = k ∧ pWord L k p = pPass L p ∧ (pWord L k p).a = p.a + 1 := by
  unfold pWord at h ⊢
  split at h
  · rw [bad_fail (by decide) p] at h; cases h
  · rename_i c
    rw [if_neg c]
    simp only [Bool.or_eq_true, Bool.not_eq_true', beq_eq_false_iff_ne, not_or] at c
    have c2 : (tk L p).k = k := by have := c.2; simp at this; exact this
    exact ⟨by simpa using c.1, c2, rfl, good_pass (by omega)⟩
theorem no_fail {e : Int} (he : e ≠ 0) {p : PS} (h : (pFail L e p).bad = false) : False := by rw [bad_fail he p] at h; cases h
/-- A tree that was read: it has no more nodes than tokens were taken; where they are. -/
structure Red (L : List Tok) (p : PS) (t : Tr) (q : PS) : Prop where
  cnt : q.bad = false → t.n + p.a ≤ q.a
  plc : p.a < L.length → PlcT L t
/-- A tree that stands behind another one. -/
structure RedX (L : List Tok) (p : PS) (x t : Tr) (q : PS) : Prop where
  cnt : q.bad = false → t.n + p.a ≤ q.a + x.n
  plc : p.a < L.length → PlcT L x → PlcT L t
  kd : Kd x → Kd t
structure RedS (L : List Tok) (p : PS) (a l : List Tr) (q : PS) : Prop where
  cnt : q.bad = false → Tr.ns l + p.a ≤ q.a + Tr.ns a
  plc : p.a < L.length → PlcS L a → PlcS L l
theorem red_leaf {p q : PS} {k n : Int} {x : List UInt8} (h : q.bad = false → 1 + p.a ≤ q.a) : Red L p (nd k (tk L p) n x []) q := ⟨fun hq => by rw [n_nd, ns_nil]; have := h hq; omega, fun hv => plcT_nd hv plcS_nil⟩
theorem red_kind (H : LW L) : ∀ (n : Nat) (p : PS) {t : Tr} {q : PS}, pKind L n p = some (t, q) → Red L p t q ∧ 15 ≤ t.k ∧ t.k ≤ 20
  | 0, p, t, q, h => by cases h
  | n + 1, p, t, q, h => by
    have kk : ∀ (k : Int) (u : Tok) (m : Int) (x : List UInt8) (ks : List Tr), (nd k u m x ks).k = k := fun _ _ _ _ _ => rfl
    rw [pKind] at h
    have pas : ∀ {k m : Int} {x : List UInt8} {s : List UInt8}, pIs L s p = true → Red L p (nd k (tk L p) m x []) (pPass L p) := fun c => red_leaf fun _ => by rw [good_pass (is_k c).2]; omega
    split at h
    · rename_i c
      cases h; exact ⟨red_leaf fun hq => (by rw [c] at hq; cases hq), by rw [kk]; omega⟩
    split at h
    · cases h; exact ⟨pas (by assumption), by rw [kk]; omega⟩
    split at h
    · cases h; exact ⟨pas (by assumption), by rw [kk]; omega⟩
    split at h
    · cases h; exact ⟨pas (by assumption), by rw [kk]; omega⟩
    split at h
    · cases h; exact ⟨pas (by assumption), by rw [kk]; omega⟩
    split at h
    · rename_i c
      cases h; exact ⟨red_leaf fun _ => by rw [good_pass (by omega)]; omega, by rw [kk]; omega⟩
    split at h
    · simp only [Option.map_eq_some_iff] at h
      obtain ⟨⟨x, r⟩, h1, h2⟩ := h
      cases h2
      obtain ⟨R, _, _⟩ := red_kind H n _ h1
      refine ⟨⟨fun hq => ?_, fun hv => ?_⟩, by rw [kk]; omega⟩
      · obtain ⟨_, _, g3⟩ := good_shut hq
        have hr := bad_back (adv_shut H [93] r) hq
        have := R.cnt hr
        obtain ⟨_, _, _, g4⟩ := good_open (bad_back (adv_kind H n _ h1) hr)
        rw [n_nd, ns_cons, ns_nil]; dsimp only at *; omega
      · exact plcT_nd hv (plcS_one (R.plc ((adv_open H _ p).v hv)))
    · cases h; exact ⟨red_leaf fun hq => (no_fail (by decide) hq).elim, by rw [kk]; omega⟩
def RedE (L : List Tok) (n : Nat) : Prop :=
  (∀ lvl p t q, pBin L n lvl p = some (t, q) → Red L p t q ∧ Kd t) ∧ (∀ lvl x p t q, pBinL L n lvl x p = some (t, q) → RedX L p x t q) ∧ (∀ p t q, pUn L n p = some (t, q) → Red L p t q ∧ Kd t) ∧
  (∀ x p t q, pPost L n x p = some (t, q) → RedX L p x t q) ∧ (∀ p t q, pAtom L n p = some (t, q) → Red L p t q ∧ Kd t) ∧ (∀ f acc p l q, pArgs L n f acc p = some (l, q) → RedS L p acc l q)
theorem kd_nd {k : Int} (h : 21 ≤ k ∧ k ≤ 32) (t : Tok) (n : Int) (x : List UInt8) (ks : List Tr) : Kd (nd k t n x ks) := h
theorem redE (H : LW L) : ∀ n, RedE L n
  | 0 => ⟨fun _ _ _ _ h => (by cases h), fun _ _ _ _ _ h => (by cases h), fun _ _ _ h => (by cases h), fun _ _ _ _ h => (by cases h), fun _ _ _ h => (by cases h), fun _ _ _ _ _ h => (by cases h)⟩
  | n + 1 => by
    obtain ⟨i1, i2, i3, i4, i5, i6⟩ := redE H n
    obtain ⟨a1, a2, a3, a4, a5, a6⟩ := advE H n
    refine ⟨fun lvl p t q h => ?_, fun lvl x p t q h => ?_, fun p t q h => ?_, fun x p t q h => ?_, fun p t q h => ?_, fun f acc p l q h => ?_⟩
    · rw [pBin] at h
      split at h
      · exact i3 _ _ _ h
      · simp only [Option.bind_eq_some_iff] at h
        obtain ⟨⟨y, r⟩, h1, h2⟩ := h
        obtain ⟨R, K⟩ := i1 _ _ _ _ h1
        have S := i2 _ _ _ _ _ h2
        refine ⟨⟨fun hq => ?_, fun hv => S.plc ((a1 _ _ _ _ h1).v hv) (R.plc hv)⟩, S.kd K⟩
        have := S.cnt hq
        have := R.cnt (bad_back (a2 _ _ _ _ _ h2) hq)
        dsimp only at *; omega
    · rw [pBinL] at h
      split at h
      · cases h; exact ⟨fun _ => by omega, fun _ h => h, id⟩
      · rename_i c
        simp only [Option.bind_eq_some_iff] at h
        obtain ⟨⟨y, r⟩, h1, h2⟩ := h
        obtain ⟨R, K⟩ := i1 _ _ _ _ h1
        have gp := good_pass (op_bad c).2
        have key : RedX L p x (nd 31 (tk L p) (pOp L lvl p) [] [x, y]) r := by
          refine ⟨fun hq => ?_, fun hv hx => ?_, fun _ => kd_nd (by omega) _ _ _ _⟩
          · have := R.cnt hq
            rw [n_nd, ns_cons, ns_cons, ns_nil]; omega
          · exact plcT_nd hv (plcS_cons hx (plcS_one (R.plc ((adv_pass H p).v hv))))
        split at h2
        · cases h2; exact key
        · have S := i2 _ _ _ _ _ h2
          refine ⟨fun hq => ?_, fun hv hx => S.plc ((a1 _ _ _ _ h1).v ((adv_pass H p).v hv)) (key.plc hv hx), fun k => S.kd (key.kd k)⟩
          have := S.cnt hq
          have := key.cnt (bad_back (a2 _ _ _ _ _ h2) hq)
          dsimp only at *; omega
    · have un : ∀ {s : List UInt8} {m : Int}, pIs L s p = true → (pUn L n (pOpen L (tk L p).x p)).map (fun r => (nd 30 (tk L p) m [] [r.1], { r.2 with d := r.2.d - 1 })) = some (t, q) → Red L p t q ∧ Kd t := by
        intro s m c h
        simp only [Option.map_eq_some_iff] at h
        obtain ⟨⟨y, r⟩, h1, h2⟩ := h
        cases h2
        obtain ⟨R, K⟩ := i3 _ _ _ h1
        refine ⟨⟨fun hq => ?_, fun hv => plcT_nd hv (plcS_one (R.plc ((adv_open H _ p).v hv)))⟩, kd_nd (by omega) _ _ _ _⟩
        have hr : r.bad = false := hq
        have := R.cnt hr
        obtain ⟨_, _, _, g4⟩ := good_open (bad_back (a3 _ _ _ h1) hr)
        rw [n_nd, ns_cons, ns_nil]
        show _ ≤ r.a
        dsimp only at *; omega
      rw [pUn] at h
      split at h
      · exact un (by assumption) h
      · split at h
        · exact un (by assumption) h
        · simp only [Option.bind_eq_some_iff] at h
          obtain ⟨⟨y, r⟩, h1, h2⟩ := h
          obtain ⟨R, K⟩ := i5 _ _ _ h1
          have S := i4 _ _ _ _ h2
          refine ⟨⟨fun hq => ?_, fun hv => S.plc ((a5 _ _ _ h1).v hv) (R.plc hv)⟩, S.kd K⟩
          have := S.cnt hq
          have := R.cnt (bad_back (a4 _ _ _ _ h2) hq)
          dsimp only at *; omega
    · rw [pPost] at h
      split at h
      · simp only [Option.bind_eq_some_iff] at h
        obtain ⟨⟨y, r⟩, h1, h2⟩ := h
        obtain ⟨R, K⟩ := i1 _ _ _ _ h1
        have S := i4 _ _ _ _ h2
        refine ⟨fun hq => ?_, fun hv hx => S.plc ((adv_shut H [93] r).v ((a1 _ _ _ _ h1).v ((adv_open H _ p).v hv))) (plcT_nd hv (plcS_cons hx (plcS_one (R.plc ((adv_open H _ p).v hv))))), fun _ => S.kd (kd_nd (by omega) _ _ _ _)⟩
        have e1 := S.cnt hq
        have hs := bad_back (a4 _ _ _ _ h2) hq
        obtain ⟨_, _, g3⟩ := good_shut hs
        have hr := bad_back (adv_shut H [93] r) hs
        have := R.cnt hr
        obtain ⟨_, _, _, g4⟩ := good_open (bad_back (a1 _ _ _ _ h1) hr)
        rw [n_nd, ns_cons, ns_cons, ns_nil] at e1
        dsimp only at *; omega
      · split at h
        · rename_i c
          have S := i4 _ _ _ _ h
          refine ⟨fun hq => ?_, fun hv hx => S.plc ((adv_word H 1 _).v ((adv_pass H p).v hv)) (plcT_nd hv (plcS_one hx)), fun _ => S.kd (kd_nd (by omega) _ _ _ _)⟩
          have e1 := S.cnt hq
          have hs := bad_back (a4 _ _ _ _ h) hq
          obtain ⟨_, _, _, g4⟩ := good_word (by decide) hs
          have g5 := good_pass (is_k c).2
          rw [n_nd, ns_cons, ns_nil] at e1
          omega
        · cases h; exact ⟨fun _ => by omega, fun _ h => h, id⟩
    · rw [pAtom] at h
      have leaf : ∀ {k m : Int} {x : List UInt8}, 21 ≤ k ∧ k ≤ 32 → (tk L p).k ≠ 8 → Red L p (nd k (tk L p) m x []) (pPass L p) ∧ Kd (nd k (tk L p) m x []) := fun hk h8 => ⟨red_leaf fun _ => by rw [good_pass h8]; omega, kd_nd hk _ _ _ _⟩
      by_cases c : p.bad = true
      · rw [if_pos c] at h; cases h
        exact ⟨red_leaf fun hq => (by rw [c] at hq; cases hq), kd_nd (by omega) _ _ _ _⟩
      rw [if_neg c] at h; clear c
      by_cases c : (tk L p).k = 3
      · rw [if_pos c] at h; cases h; exact leaf (by omega) (by omega)
      rw [if_neg c] at h; clear c
      by_cases c : (tk L p).k = 4
      · rw [if_pos c] at h; cases h; exact leaf (by omega) (by omega)
      rw [if_neg c] at h; clear c
      by_cases c : (tk L p).k = 5
      · rw [if_pos c] at h; cases h; exact leaf (by omega) (by omega)
      rw [if_neg c] at h; clear c
      by_cases c : pIs L wTrue p = true
      · rw [if_pos c] at h; cases h; exact leaf (by omega) (is_k c).2
      rw [if_neg c] at h; clear c
      by_cases c : pIs L wFalse p = true
      · rw [if_pos c] at h; cases h; exact leaf (by omega) (is_k c).2
      rw [if_neg c] at h; clear c
      by_cases c : pIs L wNil p = true
      · rw [if_pos c] at h; cases h; exact leaf (by omega) (is_k c).2
      rw [if_neg c] at h; clear c
      by_cases c : (tk L p).k = 1
      · rw [if_pos c] at h
        have gp := good_pass (L := L) (p := p) (by omega)
        by_cases c2 : pIs L [40] (pPass L p) = true
        · rw [if_pos c2] at h
          simp only [Option.map_eq_some_iff] at h
          obtain ⟨⟨y, r⟩, h1, h2⟩ := h
          cases h2
          have S := i6 _ _ _ _ _ h1
          refine ⟨⟨fun hq => ?_, fun hv => plcT_nd hv (S.plc ((adv_open H _ _).v ((adv_pass H p).v hv)) plcS_nil)⟩, kd_nd (by omega) _ _ _ _⟩
          obtain ⟨_, _, g3⟩ := good_shut hq
          have hr := bad_back (adv_shut H [41] r) hq
          have e1 := S.cnt hr
          obtain ⟨_, _, _, g4⟩ := good_open (bad_back (a6 _ _ _ _ _ h1) hr)
          rw [n_nd]; rw [ns_nil] at e1
          dsimp only at *; omega
        · rw [if_neg c2] at h
          cases h; exact leaf (by omega) (by omega)
      rw [if_neg c] at h; clear c
      by_cases c : pIs L [40] p = true
      · rw [if_pos c] at h
        simp only [Option.map_eq_some_iff] at h
        obtain ⟨⟨y, r⟩, h1, h2⟩ := h
        cases h2
        obtain ⟨R, K⟩ := i1 _ _ _ _ h1
        refine ⟨⟨fun hq => ?_, fun hv => R.plc ((adv_open H _ p).v hv)⟩, K⟩
        obtain ⟨_, _, g3⟩ := good_shut hq
        have hr := bad_back (adv_shut H [41] r) hq
        have := R.cnt hr
        obtain ⟨_, _, _, g4⟩ := good_open (bad_back (a1 _ _ _ _ h1) hr)
        dsimp only at *; omega
      rw [if_neg c] at h; clear c
      by_cases c : pIs L wMake p = true
      · rw [if_pos c] at h
        have gp := good_pass (is_k c).2
        simp only [Option.bind_eq_some_iff] at h
        obtain ⟨⟨y, r⟩, h1, h2⟩ := h
        have h0 : Adv L (pPass L p) (pHead L p) 0 := by
          unfold pHead; split
          · exact adv_fail 5 _
          · exact Adv.refl _
        obtain ⟨R, _, _⟩ := red_kind H n _ h1
        have hd : (pHead L p).bad = false → (pHead L p).a = p.a + 1 := by
          unfold pHead; split
          · exact fun h => (no_fail (by decide) h).elim
          · exact fun _ => gp
        dsimp only at h2
        split at h2
        · simp only [Option.map_eq_some_iff] at h2
          obtain ⟨⟨z, u⟩, h3, h4⟩ := h2
          cases h4
          obtain ⟨S, K⟩ := i1 _ _ _ _ h3
          refine ⟨⟨fun hq => ?_, fun hv => ?_⟩, kd_nd (by omega) _ _ _ _⟩
          · obtain ⟨_, _, g3⟩ := good_shut hq
            have hu := bad_back (adv_shut H [41] u) hq
            have := S.cnt hu
            have ho := bad_back (a1 _ _ _ _ h3) hu
            obtain ⟨_, _, _, g4⟩ := good_open ho
            have hr := bad_back (adv_open H _ r) ho
            have := R.cnt hr
            have := hd (bad_back (adv_kind H n _ h1) hr)
            rw [n_nd, ns_cons, ns_cons, ns_nil]
            dsimp only at *; omega
          · have v1 := h0.v ((adv_pass H p).v hv)
            exact plcT_nd hv (plcS_cons (R.plc v1) (plcS_one (S.plc ((adv_open H _ r).v ((adv_kind H n _ h1).v v1)))))
        · cases h2
          refine ⟨⟨fun hq => ?_, fun hv => plcT_nd hv (plcS_one (R.plc (h0.v ((adv_pass H p).v hv))))⟩, kd_nd (by omega) _ _ _ _⟩
          obtain ⟨_, _, g3⟩ := good_shut hq
          have ho := bad_back (adv_shut H [41] _) hq
          obtain ⟨_, _, _, g4⟩ := good_open ho
          have hr := bad_back (adv_open H _ r) ho
          have := R.cnt hr
          have := hd (bad_back (adv_kind H n _ h1) hr)
          rw [n_nd, ns_cons, ns_nil]
          dsimp only at *; omega
      rw [if_neg c] at h
      cases h; exact ⟨red_leaf fun hq => (no_fail (by decide) hq).elim, kd_nd (by omega) _ _ _ _⟩
    · rw [pArgs] at h
      split at h
      · cases h; exact ⟨fun _ => by omega, fun _ h => h⟩
      · simp only [Option.bind_eq_some_iff] at h
        obtain ⟨⟨y, r⟩, h1, h2⟩ := h
        have h0 : Adv L p (if f = true then p else pMust L [44] p) 0 := by
          split
          · exact Adv.refl p
          · exact adv_must H _ p
        obtain ⟨R, K⟩ := i1 _ _ _ _ h1
        have S := i6 _ _ _ _ _ h2
        refine ⟨fun hq => ?_, fun hv ha => S.plc ((a1 _ _ _ _ h1).v (h0.v hv)) (plcS_app ha (plcS_one (R.plc (h0.v hv))))⟩
        have e1 := S.cnt hq
        have := R.cnt (bad_back (a6 _ _ _ _ _ h2) hq)
        have := h0.a
        rw [ns_app, ns_cons, ns_nil] at e1
        dsimp only at *; omega
end
end Go.Proofs.YtllbpdllkkcajaaGreatDoor
namespace Go.Proofs.YtllbpdllkkcajaaGreatDoor
open Go.RowKit
section
variable {L : List Tok}
theorem red_typed (H : LW L) {n : Nat} {k : Int} {p q : PS} {t : Tr} (h : pTyped L n k p = some (t, q)) : Red L p t q := by
  unfold pTyped at h
  simp only [Option.map_eq_some_iff] at h
  obtain ⟨⟨y, r⟩, h1, h2⟩ := h
  cases h2
  obtain ⟨R, _⟩ := red_kind H n _ h1
  have A1 := adv_word H 1 p
  have A2 := adv_must H [58] (pWord L 1 p)
  refine ⟨fun hq => ?_, fun hv => plcT_nd hv (plcS_one (R.plc (A2.v (A1.v hv))))⟩
  have := R.cnt hq
  have hm := bad_back (adv_kind H n _ h1) hq
  obtain ⟨_, _, g1⟩ := good_must hm
  obtain ⟨_, _, _, g2⟩ := good_word (by decide) (bad_back A2 hm)
  rw [n_nd, ns_cons, ns_nil]
  first | omega | (dsimp only at *; omega)
theorem red_plain (H : LW L) {n : Nat} {p q : PS} {t : Tr} (h : pPlain L n (tk L p) p = some (t, q)) : Red L p t q := by
  unfold pPlain at h
  simp only [Option.bind_eq_some_iff] at h
  obtain ⟨⟨y, r⟩, h1, h2⟩ := h
  dsimp only at h2
  obtain ⟨R, _⟩ := (redE H n).1 _ _ _ _ h1
  have Ad := (advE H n).1 _ _ _ _ h1
  have one : Red L p (nd 13 (tk L p) 0 [] [y]) (pMust L [59] r) := by
    refine ⟨fun hq => ?_, fun hv => plcT_nd hv (plcS_one (R.plc hv))⟩
    obtain ⟨_, _, g1⟩ := good_must hq
    have := R.cnt (bad_back (adv_must H [59] r) hq)
    rw [n_nd, ns_cons, ns_nil]
    first | omega | (dsimp only at *; omega)
  split at h2
  · rename_i c
    cases h2
    exact ⟨fun hq => (by rw [c] at hq; cases hq), fun hv => plcT_nd hv (plcS_one (R.plc hv))⟩
  split at h2
  · rename_i c
    simp only [Option.map_eq_some_iff] at h2
    obtain ⟨⟨z, v⟩, h3, h4⟩ := h2
    cases h4
    obtain ⟨S, _⟩ := (redE H n).1 _ _ _ _ h3
    have c1 : pIs L [61] r = true := by simp only [Bool.and_eq_true] at c; exact c.1
    have gp := good_pass (is_k c1).2
    refine ⟨fun hq => ?_, fun hv => plcT_nd hv (plcS_cons (R.plc hv) (plcS_one (S.plc ((adv_pass H r).v (Ad.v hv)))))⟩
    obtain ⟨_, _, g1⟩ := good_must hq
    have hv := bad_back (adv_must H [59] v) hq
    have := S.cnt hv
    have := R.cnt (bad_back (adv_pass H r) (bad_back ((advE H n).1 _ _ _ _ h3) hv))
    rw [n_nd, ns_cons, ns_cons, ns_nil]
    first | omega | (dsimp only at *; omega)
  split at h2
  · cases h2
    refine ⟨fun hq => ?_, one.plc⟩
    exact (no_fail (by decide) (bad_back (adv_must H [59] _) hq)).elim
  · cases h2; exact one
def RedSt (L : List Tok) (n : Nat) : Prop :=
  (∀ p t q, pStat L n p = some (t, q) → Red L p t q) ∧ (∀ p t q, pBlock L n p = some (t, q) → Red L p t q) ∧ (∀ acc p l q, pStats L n acc p = some (l, q) → RedS L p acc l q)
theorem redSt (H : LW L) : ∀ n, RedSt L n
  | 0 => ⟨fun _ _ _ h => (by cases h), fun _ _ _ h => (by cases h), fun _ _ _ _ h => (by cases h)⟩
  | n + 1 => by
    obtain ⟨i1, i2, i3⟩ := redSt H n
    obtain ⟨a1, a2, a3⟩ := advS H n
    have eB := (redE H n).1
    have aB := (advE H n).1
    refine ⟨fun p t q h => ?_, fun p t q h => ?_, fun acc p l q h => ?_⟩
    · rw [pStat] at h
      dsimp only at h
      have Ap := adv_pass H p
      by_cases c : pIs L wVar p = true
      · rw [if_pos c] at h
        simp only [Option.bind_eq_some_iff, Option.map_eq_some_iff] at h
        obtain ⟨⟨y, r⟩, h1, ⟨z, v⟩, h2, h3⟩ := h
        cases h3
        have gp := good_pass (is_k c).2
        obtain ⟨R, _⟩ := red_kind H n _ h1
        obtain ⟨S, _⟩ := eB _ _ _ _ h2
        have Aw := adv_word H 1 (pPass L p)
        have Am := adv_must H [58] (pWord L 1 (pPass L p))
        have Ak := adv_kind H n _ h1
        have Ae := adv_must H [61] r
        refine ⟨fun hq => ?_, fun hv => plcT_nd hv (plcS_cons (R.plc (Am.v (Aw.v (Ap.v hv)))) (plcS_one (S.plc (Ae.v (Ak.v (Am.v (Aw.v (Ap.v hv)))))))) ⟩
        obtain ⟨_, _, g1⟩ := good_must hq
        have b1 := bad_back (adv_must H [59] v) hq
        have := S.cnt b1
        have b2 := bad_back (aB _ _ _ _ h2) b1
        obtain ⟨_, _, g2⟩ := good_must b2
        have b3 := bad_back Ae b2
        have := R.cnt b3
        have b4 := bad_back Ak b3
        obtain ⟨_, _, g3⟩ := good_must b4
        obtain ⟨_, _, _, g4⟩ := good_word (by decide) (bad_back Am b4)
        rw [n_nd, ns_cons, ns_cons, ns_nil]
        first | omega | (dsimp only at *; omega)
      rw [if_neg c] at h; clear c
      by_cases c : pIs L wIf p = true
      · rw [if_pos c] at h
        simp only [Option.bind_eq_some_iff] at h
        obtain ⟨⟨y, r⟩, h1, ⟨z, v⟩, h2, h3⟩ := h
        have gp := good_pass (is_k c).2
        obtain ⟨R, _⟩ := eB _ _ _ _ h1
        have S := i2 _ _ _ h2
        have Ae := aB _ _ _ _ h1
        have Ab := (a2 _ _ _ h2).1
        dsimp only at h3
        split at h3
        · rename_i ce
          simp only [Option.map_eq_some_iff] at h3
          obtain ⟨⟨e, w⟩, h4, h5⟩ := h3
          cases h5
          have T := i2 _ _ _ h4
          have gp2 := good_pass (is_k ce).2
          refine ⟨fun hq => ?_, fun hv => plcT_nd hv (plcS_cons (R.plc (Ap.v hv)) (plcS_cons (S.plc (Ae.v (Ap.v hv))) (plcS_one (T.plc ((adv_pass H v).v (Ab.v (Ae.v (Ap.v hv))))))))⟩
          have := T.cnt hq
          have b1 := bad_back (adv_pass H v) (bad_back (a2 _ _ _ h4).1 hq)
          have := S.cnt b1
          have := R.cnt (bad_back Ab b1)
          rw [n_nd, ns_cons, ns_cons, ns_cons, ns_nil]
          first | omega | (dsimp only at *; omega)
        · cases h3
          refine ⟨fun hq => ?_, fun hv => plcT_nd hv (plcS_cons (R.plc (Ap.v hv)) (plcS_one (S.plc (Ae.v (Ap.v hv)))))⟩
          have := S.cnt hq
          have := R.cnt (bad_back Ab hq)
          rw [n_nd, ns_cons, ns_cons, ns_nil]
          first | omega | (dsimp only at *; omega)
      rw [if_neg c] at h; clear c
      by_cases c : pIs L wWhile p = true
      · rw [if_pos c] at h
        simp only [Option.bind_eq_some_iff, Option.map_eq_some_iff] at h
        obtain ⟨⟨y, r⟩, h1, ⟨z, v⟩, h2, h3⟩ := h
        cases h3
        have gp := good_pass (is_k c).2
        obtain ⟨R, _⟩ := eB _ _ _ _ h1
        have S := i2 _ _ _ h2
        have Ae := aB _ _ _ _ h1
        have Ab := (a2 _ _ _ h2).1
        refine ⟨fun hq => ?_, fun hv => plcT_nd hv (plcS_cons (R.plc (Ap.v hv)) (plcS_one (S.plc (Ae.v (Ap.v hv)))))⟩
        have := S.cnt hq
        have := R.cnt (bad_back Ab hq)
        rw [n_nd, ns_cons, ns_cons, ns_nil]
        first | omega | (dsimp only at *; omega)
      rw [if_neg c] at h; clear c
      by_cases c : pIs L wReturn p = true
      · rw [if_pos c] at h
        have gp := good_pass (is_k c).2
        split at h
        · cases h
          refine ⟨fun hq => ?_, fun hv => plcT_nd hv plcS_nil⟩
          obtain ⟨_, _, g1⟩ := good_must hq
          rw [n_nd, ns_nil]; omega
        · simp only [Option.map_eq_some_iff] at h
          obtain ⟨⟨y, r⟩, h1, h3⟩ := h
          cases h3
          obtain ⟨R, _⟩ := eB _ _ _ _ h1
          refine ⟨fun hq => ?_, fun hv => plcT_nd hv (plcS_one (R.plc (Ap.v hv)))⟩
          obtain ⟨_, _, g1⟩ := good_must hq
          have := R.cnt (bad_back (adv_must H [59] r) hq)
          rw [n_nd, ns_cons, ns_nil]
          first | omega | (dsimp only at *; omega)
      rw [if_neg c] at h; clear c
      by_cases c : pIs L wPrint p = true
      · rw [if_pos c] at h
        have gp := good_pass (is_k c).2
        simp only [Option.map_eq_some_iff] at h
        obtain ⟨⟨y, r⟩, h1, h3⟩ := h
        cases h3
        obtain ⟨R, _⟩ := eB _ _ _ _ h1
        refine ⟨fun hq => ?_, fun hv => plcT_nd hv (plcS_one (R.plc (Ap.v hv)))⟩
        obtain ⟨_, _, g1⟩ := good_must hq
        have := R.cnt (bad_back (adv_must H [59] r) hq)
        rw [n_nd, ns_cons, ns_nil]
        first | omega | (dsimp only at *; omega)
      rw [if_neg c] at h
      exact red_plain H h
    · rw [pBlock] at h
      simp only [Option.map_eq_some_iff] at h
      obtain ⟨⟨y, r⟩, h1, h3⟩ := h
      cases h3
      have R := i3 _ _ _ _ h1
      refine ⟨fun hq => ?_, fun hv => plcT_nd hv (R.plc ((adv_open H [123] p).v hv) plcS_nil)⟩
      obtain ⟨_, _, g1⟩ := good_shut hq
      have b1 := bad_back (adv_shut H [125] r) hq
      have e1 := R.cnt b1
      obtain ⟨_, _, _, g2⟩ := good_open (bad_back (a3 _ _ _ _ h1) b1)
      rw [ns_nil] at e1
      rw [n_nd]
      first | omega | (dsimp only at *; omega)
    · rw [pStats] at h
      split at h
      · cases h; exact ⟨fun _ => by omega, fun _ h => h⟩
      · simp only [Option.bind_eq_some_iff] at h
        obtain ⟨⟨y, r⟩, h1, h2⟩ := h
        have R := i1 _ _ _ h1
        have S := i3 _ _ _ _ h2
        refine ⟨fun hq => ?_, fun hv ha => S.plc ((a1 _ _ _ h1).1.v hv) (plcS_app ha (plcS_one (R.plc hv)))⟩
        have e1 := S.cnt hq
        have := R.cnt (bad_back (a3 _ _ _ _ h2) hq)
        rw [ns_app, ns_cons, ns_nil] at e1
        first | omega | (dsimp only at *; omega)
theorem red_fields (H : LW L) : ∀ (n : Nat) (acc : List Tr) (p : PS) {l : List Tr} {q : PS}, pFields L n acc p = some (l, q) → RedS L p acc l q
  | 0, _, _, _, _, h => by cases h
  | n + 1, acc, p, l, q, h => by
    rw [pFields] at h
    split at h
    · cases h; exact ⟨fun _ => by omega, fun _ h => h⟩
    · simp only [Option.bind_eq_some_iff] at h
      obtain ⟨⟨y, r⟩, h1, h2⟩ := h
      have R := red_typed H h1
      have S := red_fields H n _ _ h2
      have At' := (adv_typed H h1).1
      have Am := adv_must H [59] r
      refine ⟨fun hq => ?_, fun hv ha => S.plc (Am.v (At'.v hv)) (plcS_app ha (plcS_one (R.plc hv)))⟩
      have e1 := S.cnt hq
      have := R.cnt (bad_back Am (bad_back (adv_fields H n _ _ h2) hq))
      have := Am.a
      rw [ns_app, ns_cons, ns_nil] at e1
      first | omega | (dsimp only at *; omega)
theorem red_params (H : LW L) : ∀ (n : Nat) (f : Bool) (acc : List Tr) (p : PS) {l : List Tr} {q : PS}, pParams L n f acc p = some (l, q) → RedS L p acc l q
  | 0, _, _, _, _, _, h => by cases h
  | n + 1, f, acc, p, l, q, h => by
    rw [pParams] at h
    split at h
    · cases h; exact ⟨fun _ => by omega, fun _ h => h⟩
    · simp only [Option.bind_eq_some_iff] at h
      obtain ⟨⟨y, r⟩, h1, h2⟩ := h
      have h0 : Adv L p (if f = true then p else pMust L [44] p) 0 := by
        split
        · exact Adv.refl p
        · exact adv_must H _ p
      have R := red_typed H h1
      have S := red_params H n _ _ _ h2
      have At' := (adv_typed H h1).1
      refine ⟨fun hq => ?_, fun hv ha => S.plc (At'.v (h0.v hv)) (plcS_app ha (plcS_one (R.plc (h0.v hv))))⟩
      have e1 := S.cnt hq
      have := R.cnt (bad_back (adv_params H n _ _ _ h2) hq)
      have := h0.a
      rw [ns_app, ns_cons, ns_nil] at e1
      first | omega | (dsimp only at *; omega)
theorem red_record (H : LW L) {n : Nat} {p q : PS} {t : Tr} (h : pRecord L n p = some (t, q)) : Red L p t q := by
  unfold pRecord at h
  simp only [Option.map_eq_some_iff] at h
  obtain ⟨⟨y, r⟩, h1, h2⟩ := h
  cases h2
  have R := red_fields H n _ _ h1
  have Am := adv_must H wRec p
  have Aw := adv_word H 2 (pMust L wRec p)
  have Ao := adv_open H [123] (pWord L 2 (pMust L wRec p))
  refine ⟨fun hq => ?_, fun hv => plcT_nd hv (R.plc (Ao.v (Aw.v (Am.v hv))) plcS_nil)⟩
  obtain ⟨_, _, g1⟩ := good_shut hq
  have b1 := bad_back (adv_shut H [125] r) hq
  have e1 := R.cnt b1
  obtain ⟨_, _, _, g2⟩ := good_open (bad_back (adv_fields H n _ _ h1) b1)
  have := Am.a
  have := Aw.a
  rw [ns_nil] at e1
  rw [n_nd]
  first | omega | (dsimp only at *; omega)
theorem red_fn (H : LW L) {n : Nat} {p q : PS} {t : Tr} (h : pFn L n p = some (t, q)) : Red L p t q := by
  unfold pFn at h
  simp only [Option.map_eq_some_iff, Option.bind_eq_some_iff] at h
  obtain ⟨⟨y, r⟩, h1, ⟨z, v⟩, h2, ⟨e, w⟩, h3, h4⟩ := h
  cases h4
  dsimp only at h2 h3 ⊢
  have R := red_params H n _ _ _ h1
  have T := (redSt H n).2.1 _ _ _ h3
  have Am := adv_must H wFn p
  have Aw := adv_word H 1 (pMust L wFn p)
  have Ao := adv_open H [40] (pWord L 1 (pMust L wFn p))
  have Ap := adv_params H n _ _ _ h1
  have As := adv_shut H [41] r
  have B : Adv L (pShut L [41] r) v 0 := by
    split at h2
    · exact ((adv_pass H _).trans (adv_kind H n _ h2)).of (by omega)
    · cases h2; exact Adv.refl _
  have S : (v.bad = false → z.n + (pShut L [41] r).a ≤ v.a + 1) ∧ ((pShut L [41] r).a < L.length → PlcT L z) := by
    split at h2
    · rename_i c
      obtain ⟨K, _⟩ := red_kind H n _ h2
      refine ⟨fun hq => ?_, fun hv => K.plc ((adv_pass H _).v hv)⟩
      have := K.cnt hq
      have := (adv_pass H (pShut L [41] r)).a
      omega
    · cases h2
      refine ⟨fun _ => by simp [Tr.n, Tr.nods, Tr.nodss]; omega, fun _ x hx => ?_⟩
      simp only [Tr.nods, Tr.nodss, List.mem_singleton] at hx
      subst hx
      exact .inr ⟨rfl, rfl, rfl⟩
  refine ⟨fun hq => ?_, fun hv => plcT_nd hv (plcS_app (R.plc (Ao.v (Aw.v (Am.v hv))) plcS_nil) (plcS_cons (S.2 (As.v (Ap.v (Ao.v (Aw.v (Am.v hv)))))) (plcS_one (T.plc (B.v (As.v (Ap.v (Ao.v (Aw.v (Am.v hv)))))))))) ⟩
  have := T.cnt hq
  have b1 := bad_back (((advS H n).2.1 _ _ _ h3).1) hq
  have := S.1 b1
  have b2 := bad_back B b1
  obtain ⟨_, _, g1⟩ := good_shut b2
  have b3 := bad_back As b2
  have e1 := R.cnt b3
  obtain ⟨_, _, _, g2⟩ := good_open (bad_back Ap b3)
  have := Am.a
  have := Aw.a
  rw [ns_nil] at e1
  rw [n_nd, ns_app, ns_cons, ns_cons, ns_nil]
  first | omega | (dsimp only at *; omega)
theorem red_progL (H : LW L) : ∀ (n : Nat) (acc : List Tr) (p : PS) {l : List Tr} {q : PS}, pProgL L n acc p = some (l, q) → RedS L p acc l q
  | 0, _, _, _, _, h => by cases h
  | n + 1, acc, p, l, q, h => by
    rw [pProgL] at h
    split at h
    · cases h; exact ⟨fun _ => by omega, fun _ h => h⟩
    have more : ∀ {y : Tr} {r : PS}, Red L p y r → Adv L p r 0 → pProgL L n (acc ++ [y]) r = some (l, q) → RedS L p acc l q := by
      intro y r R A h2
      have S := red_progL H n _ _ h2
      refine ⟨fun hq => ?_, fun hv ha => S.plc (A.v hv) (plcS_app ha (plcS_one (R.plc hv)))⟩
      have e1 := S.cnt hq
      have := R.cnt (bad_back (adv_progL H n _ _ h2) hq)
      rw [ns_app, ns_cons, ns_nil] at e1
      omega
    split at h
    · simp only [Option.bind_eq_some_iff] at h
      obtain ⟨⟨y, r⟩, h1, h2⟩ := h
      exact more (red_record H h1) (adv_record H h1).1 h2
    split at h
    · simp only [Option.bind_eq_some_iff] at h
      obtain ⟨⟨y, r⟩, h1, h2⟩ := h
      exact more (red_fn H h1) (adv_fn H h1).1 h2
    · have S := red_progL H n _ _ h
      have A := adv_fail (L := L) 5 p
      refine ⟨fun hq => (no_fail (by decide) (bad_back (adv_progL H n _ _ h) hq)).elim, fun hv ha => S.plc (A.v hv) ha⟩
end
theorem pls_len {s : List UInt8} : ∀ {l : List Tok} {i : Nat}, Pls s i l → l.length + i ≤ s.length + 1
  | [], _, h => by cases h
  | t :: l, i, ⟨h1, _, h3⟩ => by
    rcases h3 with ⟨_, _, rfl⟩ | ⟨h4, h5, _, _, _, _, _, h11⟩
    · simp; omega
    · have := pls_len h11
      have := (one_ok h4 h5).1
      simp; omega
/-- The tree of a text, or its fault. -/
def fuelOf (L : List Tok) : Nat := 12 * L.length + 20
def p0 : PS := ⟨0, 0, (0, 0, 0)⟩
def endP (L : List Tok) (p : PS) : PS := if (tk L p).k = 8 then p else pFail L 5 p
def parseT (prog : Bool) (s : List UInt8) : Option ((Int × Int × Int) × Tr) :=
  if (lexAll s).1.1 ≠ 0 then some ((lexAll s).1, .nd 0 0 0 0 [] [])
  else (if prog then pProg (lexAll s).2 (fuelOf (lexAll s).2) p0 else pBin (lexAll s).2 (fuelOf (lexAll s).2) 1 p0).map fun r => ((endP (lexAll s).2 r.2).f, r.1)
/-- A text's tokens. -/
structure Toks (s : List UInt8) (L : List Tok) : Prop where
  lw : LW L
  len : L.length ≤ s.length + 1
  tok : ∀ t ∈ L, t.k = 8 ∨ TokIn s t
theorem toks_of {s : List UInt8} (h : (lexAll s).1.1 = 0) : Toks s (lexAll s).2 := by
  have P := lexAll_pls h
  exact ⟨(pls_lw P).1, by have := pls_len P; omega, (pls_lw P).2⟩
theorem mu_p0 (L : List Tok) : mu L p0 = L.length := rfl
theorem parse_some (prog : Bool) (s : List UInt8) : ∃ r, parseT prog s = some r := by
  unfold parseT
  split
  · exact ⟨_, rfl⟩
  · rename_i h
    have h0 : (lexAll s).1.1 = 0 := by simpa using h
    have T := toks_of h0
    have hv : p0.a < (lexAll s).2.length := T.lw.pos
    rw [← Option.isSome_iff_exists, Option.isSome_map]
    cases prog with
    | true =>
      show (pProg _ _ _).isSome = true
      unfold pProg
      rw [Option.isSome_map]
      exact fuel_progL T.lw _ _ _ hv (by rw [mu_p0]; unfold fuelOf; omega)
    | false => exact (fuelE T.lw _).1 1 p0 hv (by rw [mu_p0]; unfold fuelOf; omega)
/-- What is read: no more nodes than tokens, and where they are. -/
theorem parse_red {prog : Bool} {s : List UInt8} {f : Int × Int × Int} {t : Tr} (h : parseT prog s = some (f, t)) (hf : f.1 = 0) :
    (lexAll s).1.1 = 0 ∧ t.n ≤ s.length + 1 ∧ (prog = false → Kd t ∧ PlcT (lexAll s).2 t) ∧ (prog = true → ∃ rl, t = .nd 1 1 1 0 [] rl ∧ PlcS (lexAll s).2 rl) := by
  unfold parseT at h
  split at h
  · rename_i h0
    cases h
    exact absurd hf h0
  rename_i h0
  have h0 : (lexAll s).1.1 = 0 := by simpa using h0
  have T := toks_of h0
  have hv : p0.a < (lexAll s).2.length := T.lw.pos
  have hlen := T.len
  simp only [Option.map_eq_some_iff] at h
  obtain ⟨⟨t', q⟩, h1, h2⟩ := h
  cases h2
  have hq : q.bad = false := by
    unfold endP at hf
    split at hf
    · unfold PS.bad; rw [hf]; rfl
    · exfalso
      have := bad_fail (L := (lexAll s).2) (e := 5) (by decide) q
      unfold PS.bad at this
      rw [hf] at this
      exact absurd this (by decide)
  refine ⟨h0, ?_⟩
  cases prog with
  | false =>
    have h1 : pBin (lexAll s).2 (fuelOf (lexAll s).2) 1 p0 = some (t', q) := h1
    obtain ⟨R, K⟩ := (redE T.lw _).1 _ _ _ _ h1
    have := R.cnt hq
    have := ((advE T.lw _).1 _ _ _ _ h1).v hv
    exact ⟨by dsimp only at *; omega, fun _ => ⟨K, R.plc hv⟩, fun h => by cases h⟩
  | true =>
    have h1 : pProg (lexAll s).2 (fuelOf (lexAll s).2) p0 = some (t', q) := h1
    unfold pProg at h1
    simp only [Option.map_eq_some_iff] at h1
    obtain ⟨⟨rl, r⟩, h3, h4⟩ := h1
    cases h4
    have R := red_progL T.lw _ _ _ h3
    have e := R.cnt hq
    rw [ns_nil] at e
    have := (adv_progL T.lw _ _ _ h3).v hv
    refine ⟨?_, fun h => (by cases h), fun _ => ⟨rl, rfl, R.plc hv plcS_nil⟩⟩
    have : (Tr.nd 1 1 1 0 [] rl).n = Tr.ns rl + 1 := by simp [Tr.n, Tr.ns, Tr.nods]
    rw [this]
    first | omega | (dsimp only at *; omega)
end Go.Proofs.YtllbpdllkkcajaaGreatDoor
