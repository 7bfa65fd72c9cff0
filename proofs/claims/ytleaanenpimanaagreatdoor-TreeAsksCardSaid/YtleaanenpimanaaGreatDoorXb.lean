/-
  Plain law: nodes and trees: which may be, where a path is, sorted and numbered anew.
-/
import Derived.Test.YtleaanenpimanaaGreatDoorXa
namespace Go.Proofs.YtleaanenpimanaaGreatDoor
namespace Eng

structure Att where
  name : Str
  value : Str
deriving DecidableEq, Inhabited
structure Ac where
  kind : Int
  id : Int
  perm : Int
deriving DecidableEq, Inhabited
structure Pce where
  pos : Int
  data : Str
deriving DecidableEq, Inhabited
structure Nd where
  kind : Int
  mode : Int
  uid : Int
  gid : Int
  time : Int
  attrs : List Att
  acl : List Ac
  size : Int
  data : List Pce
  target : Str
  major : Int
  minor : Int
deriving DecidableEq, Inhabited
structure En where
  path : Str
  node : Int
deriving DecidableEq, Inhabited
structure Tre where
  es : List En
  ns : List Nd
deriving DecidableEq, Inhabited

/-- Each is less than the next. -/
def ascF {α : Type} (lt : α → α → Bool) : Option α → List α → Bool
  | _, [] => true
  | none, x :: r => ascF lt (some x) r
  | some p, x :: r => lt p x && ascF lt (some x) r

def acOK (a : Ac) : Bool := decide (1 ≤ a.kind) && decide (a.kind ≤ 3) && decide (0 ≤ a.perm) && decide (a.perm ≤ 7) && decide (0 ≤ a.id) && decide (a.id ≤ 2147483647) && (decide (a.kind ≠ 3) || decide (a.id = 0))
def acLt (a b : Ac) : Bool := decide (a.kind < b.kind) || (decide (a.kind = b.kind) && decide (a.id < b.id))
def aclOK (l : List Ac) : Bool := decide (l.length ≤ 16) && l.all acOK && ascF acLt none l && (decide (l = []) || l.any fun a => decide (a.kind = 3))
def attOK (a : Att) : Bool := decide (1 ≤ a.name.length) && decide (a.name.length ≤ 20) && decide (a.value.length ≤ 200)
def attLt (a b : Att) : Bool := Op.bytesLess a.name b.name
def idOK (n : Int) : Bool := decide (0 ≤ n) && decide (n ≤ 2147483647)
def metaOK (n : Nd) : Bool := decide (0 ≤ n.mode) && decide (n.mode ≤ 4095) && idOK n.uid && idOK n.gid && decide (0 ≤ n.time) && decide (n.attrs.length ≤ 8) && n.attrs.all attOK && ascF attLt none n.attrs && aclOK n.acl
/-- How many bytes the pieces have. -/
def bytesP : List Pce → Nat
  | [] => 0
  | p :: r => p.data.length + bytesP r
def pceOK (p : Pce) : Bool := decide (p.data ≠ []) && decide (0 ≤ p.pos) && decide (p.pos ≤ 1099511627776)
/-- Pieces that rise, behind last; none ends behind size. -/
def extOK (size : Int) : Int → List Pce → Bool
  | last, [] => decide (last ≤ size)
  | last, p :: r => decide (last < p.pos) && extOK size (p.pos + p.data.length) r
def fileOK (n : Nd) : Bool := decide (0 ≤ n.size) && decide (n.size ≤ 1099511627776) && decide (n.data.length ≤ 16) && n.data.all pceOK && decide (bytesP n.data ≤ 4000) && extOK n.size (-1) n.data
def noData (n : Nd) : Bool := decide (n.size = 0) && decide (n.data = [])
def noText (n : Nd) : Bool := decide (n.target = [])
def noDev (n : Nd) : Bool := decide (n.major = 0) && decide (n.minor = 0)
def nodeOK (n : Nd) : Bool := metaOK n &&
  (if n.kind = 1 ∨ n.kind = 6 then noData n && noText n && noDev n
   else if n.kind = 2 then fileOK n && noText n && noDev n
   else if n.kind = 3 then noData n && noDev n && decide (1 ≤ n.target.length) && decide (n.target.length ≤ 200) && n.target.all fun c => decide (c ≠ 0)
   else if n.kind = 4 ∨ n.kind = 5 then noData n && noText n && decide (0 ≤ n.major) && decide (n.major ≤ 65535) && decide (0 ≤ n.minor) && decide (n.minor ≤ 65535)
   else false)

/-- The node number of the first entry with a path. -/
def findT : List En → Str → Option Int
  | [], _ => none
  | e :: r, p => if e.path = p then some e.node else findT r p
def kindAt (ns : List Nd) (k : Int) : Int := (ns.getD k.toNat default).kind

/-- Entries in order, numbered as they come, from the number used on. -/
def ordB (ns : List Nd) : Option Str → Nat → List En → Bool
  | _, used, [] => decide (used = ns.length)
  | prev, used, e :: r => mayP e.path && (match prev with | none => decide (e.path = []) | some p => lessP p e.path) && decide (0 ≤ e.node) && decide (e.node ≤ used) && decide (e.node < ns.length) &&
      (if e.node < used then decide (kindAt ns e.node ≠ 1) && ordB ns (some e.path) used r
       else nodeOK (ns.getD used default) && ordB ns (some e.path) (used + 1) r)
/-- The parent is there, and is a directory. -/
def parOK (t : Tre) (e : En) : Bool := match findT t.es (upP e.path) with
  | some k => decide (kindAt t.ns k = 1)
  | none => false
def mayT (t : Tre) : Bool := decide (1 ≤ t.es.length) && decide (t.es.length ≤ 100) && ordB t.ns none 0 t.es && decide (kindAt t.ns ((t.es.headD default).node) = 1) && (t.es.drop 1).all (parOK t)

/-- Entries without their numbers' check: paths. -/
def pathsOK : Option Str → List En → Bool
  | _, [] => true
  | prev, e :: r => mayP e.path && (match prev with | none => decide (e.path = []) | some p => lessP p e.path) && pathsOK (some e.path) r
/-- Numbers. -/
def numOK (n : Nat) : Nat → List En → Bool
  | _, [] => true
  | used, e :: r => decide (0 ≤ e.node) && decide (e.node ≤ used) && decide (e.node < n) && numOK n (if e.node < used then used else used + 1) r
def finU : Nat → List En → Nat
  | used, [] => used
  | used, e :: r => finU (if e.node < used then used else used + 1) r
def cntN (i : Nat) (l : List En) : Nat := l.countP fun e => decide (e.node = (i : Int))

theorem finU_ge : ∀ (l : List En) (u : Nat), u ≤ finU u l
  | [], _ => Nat.le_refl _
  | e :: r, u => by
    rw [finU]
    split
    · exact finU_ge r u
    · exact Nat.le_trans (Nat.le_succ u) (finU_ge r (u + 1))
theorem finU_le {n : Nat} : ∀ (l : List En) (u : Nat), u ≤ n → numOK n u l = true → finU u l ≤ n
  | [], _, h, _ => h
  | e :: r, u, h, hn => by
    simp only [numOK, Bool.and_eq_true, decide_eq_true_eq] at hn
    rw [finU]
    obtain ⟨⟨⟨h0, h1⟩, h2⟩, h3⟩ := hn
    split
    · rename_i hlt; rw [if_pos hlt] at h3; exact finU_le r u h h3
    · rename_i hlt; rw [if_neg hlt] at h3; exact finU_le r (u + 1) (by omega) h3
/-- Which numbers are met. -/
theorem cnt_pos {n : Nat} : ∀ (l : List En) (u i : Nat), numOK n u l = true → u ≤ i → (0 < cntN i l ↔ i < finU u l)
  | [], u, i, _, h => by simp [cntN, finU]; omega
  | e :: r, u, i, hn, h => by
    simp only [numOK, Bool.and_eq_true, decide_eq_true_eq] at hn
    obtain ⟨⟨⟨h0, h1⟩, h2⟩, h3⟩ := hn
    unfold cntN
    rw [finU, List.countP_cons]
    by_cases hlt : e.node < u
    · rw [if_pos hlt] at h3 ⊢
      have hne : ¬ e.node = (i : Int) := by omega
      have := cnt_pos r u i h3 h
      unfold cntN at this
      simp only [hne, decide_false, Bool.false_eq_true, if_false, Nat.add_zero]
      exact this
    · rw [if_neg hlt] at h3 ⊢
      have he : e.node = (u : Int) := by omega
      have hge := finU_ge r (u + 1)
      by_cases hi : i = u
      · subst hi
        simp only [he, decide_true, if_true]
        omega
      · have hne : ¬ e.node = (i : Int) := by omega
        have := cnt_pos r (u + 1) i h3 (by omega)
        unfold cntN at this
        simp only [hne, decide_false, Bool.false_eq_true, if_false, Nat.add_zero]
        exact this
/-- What entries in order are. -/
theorem ordB_iff (ns : List Nd) : ∀ (l : List En) (prev : Option Str) (u : Nat), u ≤ ns.length → (ordB ns prev u l = true ↔
    pathsOK prev l = true ∧ numOK ns.length u l = true ∧ finU u l = ns.length ∧ (∀ i, u ≤ i → i < ns.length → nodeOK (ns.getD i default) = true) ∧
    (∀ i : Nat, i < ns.length → kindAt ns i = 1 → (i < u → cntN i l = 0) ∧ (u ≤ i → cntN i l = 1)))
  | [], prev, u, hu => by
    simp only [ordB, pathsOK, numOK, finU, decide_eq_true_eq, cntN, List.countP_nil, true_and]
    constructor
    · rintro rfl
      exact ⟨rfl, fun i h1 h2 => by omega, fun i hi _ => ⟨fun _ => trivial, fun h => by omega⟩⟩
    · exact fun h => h.1
  | e :: r, prev, u, hu => by
    simp only [ordB, pathsOK, numOK, finU, Bool.and_eq_true, decide_eq_true_eq]
    have hc : ∀ i : Nat, cntN i (e :: r) = cntN i r + if e.node = (i : Int) then 1 else 0 := fun i => by
      unfold cntN; rw [List.countP_cons]; simp
    by_cases hlt : e.node < u
    · simp only [if_pos hlt, Bool.and_eq_true, decide_eq_true_eq]
      have ih := ordB_iff ns r (some e.path) u hu
      rw [ih]
      constructor
      · rintro ⟨⟨⟨⟨⟨h1, h2⟩, h3⟩, h4⟩, h5⟩, h6, h7, h8, h9, h10, h11⟩
        refine ⟨⟨⟨h1, h2⟩, h7⟩, ⟨⟨⟨h3, h4⟩, h5⟩, h8⟩, h9, h10, fun i hi hk => ?_⟩
        rw [hc]
        have hne : ¬ e.node = (i : Int) := fun e' => h6 (by rw [e']; exact hk)
        rw [if_neg hne]
        exact h11 i hi hk
      · rintro ⟨⟨⟨h1, h2⟩, h7⟩, ⟨⟨⟨h3, h4⟩, h5⟩, h8⟩, h9, h10, h11⟩
        have h6 : kindAt ns e.node ≠ 1 := fun hk => by
          have := (h11 e.node.toNat (by omega) (by rw [show ((e.node.toNat : Nat) : Int) = e.node from by omega]; exact hk)).1 (by omega)
          rw [hc, if_pos (by omega)] at this
          omega
        refine ⟨⟨⟨⟨⟨h1, h2⟩, h3⟩, h4⟩, h5⟩, h6, h7, h8, h9, h10, fun i hi hk => ?_⟩
        have hne : ¬ e.node = (i : Int) := fun e' => h6 (by rw [e']; exact hk)
        have := h11 i hi hk
        rw [hc, if_neg hne] at this
        exact this
    · simp only [if_neg hlt, Bool.and_eq_true]
      constructor
      · rintro ⟨⟨⟨⟨⟨h1, h2⟩, h3⟩, h4⟩, h5⟩, h6, h7⟩
        have ih := ordB_iff ns r (some e.path) (u + 1) (by omega)
        obtain ⟨g1, g2, g3, g4, g5⟩ := ih.1 h7
        refine ⟨⟨⟨h1, h2⟩, g1⟩, ⟨⟨⟨h3, h4⟩, h5⟩, g2⟩, g3, fun i hi hi2 => ?_, fun i hi hk => ?_⟩
        · by_cases e' : i = u
          · subst e'; exact h6
          · exact g4 i (by omega) hi2
        · rw [hc]
          have := g5 i hi hk
          constructor
          · intro hiu; rw [if_neg (by omega)]; exact this.1 (by omega)
          · intro hiu
            by_cases e' : i = u
            · subst e'; rw [if_pos (by omega), this.1 (by omega)]
            · rw [if_neg (by omega)]; exact this.2 (by omega)
      · rintro ⟨⟨⟨h1, h2⟩, g1⟩, ⟨⟨⟨h3, h4⟩, h5⟩, g2⟩, g3, g4, g5⟩
        have ih := ordB_iff ns r (some e.path) (u + 1) (by omega)
        refine ⟨⟨⟨⟨⟨h1, h2⟩, h3⟩, h4⟩, h5⟩, g4 u (Nat.le_refl _) (by omega), ih.2 ⟨g1, g2, g3, fun i hi hi2 => g4 i (by omega) hi2, fun i hi hk => ?_⟩⟩
        have := g5 i hi hk
        rw [hc] at this
        constructor
        · intro hiu
          by_cases e' : i = u
          · subst e'
            have h := this.2 (Nat.le_refl _)
            rw [if_pos (by omega)] at h
            omega
          · have h := this.1 (by omega)
            omega
        · intro hiu
          have h := this.2 (by omega)
          rw [if_neg (by omega)] at h
          omega
end Eng
end Go.Proofs.YtleaanenpimanaaGreatDoor
