/-
  Tables of this seat's types and functions, read off the translation by program and checked against the loaded program by the kernel.
-/
import Derived.Test.YtighkjohpmlemaaEngA
import Derived.Test.YtighkjohpmlemaaProg
namespace Go.Proofs.Ytighkjohpmlemaa
namespace Eng

def bit (m t : Nat) : Bool := Nat.beq (m / 2 ^ t % 2) 1
def get : List (Nat × Nat) → Nat → Option Nat
  | [], _ => none
  | (k, v) :: r, t => match Nat.beq k t with
    | true => some v
    | false => get r t
theorem get_mem : ∀ {l : List (Nat × Nat)} {t v : Nat}, get l t = some v → (t, v) ∈ l
  | [], _, _, h => by cases h
  | (k, u) :: r, t, v, h => by
    simp only [get] at h
    split at h
    · rename_i hb; injection h with h; subst h; rw [Nat.eq_of_beq_eq_true hb]; simp
    · exact List.mem_cons_of_mem _ (get_mem h)

def m_i8 : Nat := 0
def m_i16 : Nat := 0
def m_i32 : Nat := 548063113999088594326381812268606132370976800768
def m_i64 : Nat := 12
def m_u8 : Nat := 34253944624943037145398863266787883273185919072
def m_u16 : Nat := 0
def m_u32 : Nat := 5708990770823839524233143877797980545530986496
def m_u64 : Nat := 10737422336
def kindOf (t : Nat) : Option IntKind := match bit m_i64 t with
  | true => some .i64
  | false => match bit m_u64 t with
    | true => some .u64
    | false => match bit m_u8 t with
      | true => some .u8
      | false => match bit m_i32 t with
        | true => some .i32
        | false => match bit m_u32 t with
          | true => some .u32
          | false => none
def isI (t : Nat) : Bool := (kindOf t).isSome
def m_str : Nat := 3584
def isS (t : Nat) : Bool := bit m_str t
def m_one : Nat := 725219428054690123074612570120828485564051463806
def one (t : Nat) : Bool := bit m_one t
def m_ptr : Nat := 91343863222217173857761435104210664693596127232
def l_fld : List (Nat × Nat) := [(700, 0), (701, 1), (702, 2), (703, 3), (800, 0), (801, 1), (802, 2), (803, 3), (1300, 0), (1301, 1), (1400, 0), (1401, 1), (1800, 0), (1900, 0), (3400, 0), (3401, 1), (3402, 2), (3500, 0), (3501, 1), (3502, 2), (3700, 0), (3800, 0), (5000, 0), (5001, 1), (5100, 0), (5101, 1), (5800, 0), (5801, 1), (5802, 2), (5900, 0), (5901, 1), (5902, 2), (6700, 0), (6701, 1), (6702, 2), (8700, 0), (8701, 13), (8800, 0), (8801, 13), (9200, 0), (9201, 1), (9300, 0), (9301, 1), (9700, 0), (9701, 1), (9800, 0), (9801, 1), (11000, 0), (11001, 1), (11002, 2), (11003, 3), (11004, 4), (11100, 0), (11101, 1), (11102, 2), (11103, 3), (11104, 4), (11600, 0), (11601, 1), (11602, 2), (11603, 3), (11604, 4), (11700, 0), (11701, 1), (11702, 2), (11703, 3), (11704, 4), (11900, 0), (11901, 1), (12000, 0), (12001, 1), (14700, 0), (14701, 1), (14702, 2), (14703, 3), (14800, 0), (14801, 1), (14802, 2), (14803, 3), (15900, 0), (15901, 1), (15902, 2), (15903, 3), (15904, 4), (15905, 5), (15906, 6), (15907, 7), (15908, 8), (15909, 9), (15910, 10), (16000, 0), (16001, 1), (16002, 2), (16003, 3), (16004, 4), (16005, 5), (16006, 6), (16007, 7), (16008, 8), (16009, 9), (16010, 10)]
def fo (s f : Nat) : Option Nat := get l_fld (s * 100 + f)
def l_sl : List (Nat × Nat) := [(22, 1), (23, 1), (28, 1), (71, 1), (73, 1), (103, 3), (115, 1), (118, 2), (126, 3)]
def es (t : Nat) : Option Nat := get l_sl t
def l_an : List (Nat × Nat) := [(86, 13)]
def l_ae : List (Nat × Nat) := [(86, 1)]
def l_agg : List (Nat × Nat) := [(7, 4), (8, 4), (13, 2), (14, 2), (18, 1), (19, 1), (34, 3), (35, 3), (37, 1), (38, 1), (50, 2), (51, 2), (58, 3), (59, 3), (67, 3), (86, 13), (87, 26), (88, 26), (92, 2), (93, 2), (97, 2), (98, 2), (110, 5), (111, 5), (116, 5), (117, 5), (119, 2), (120, 2), (147, 4), (148, 4), (149, 0), (150, 0), (151, 0), (159, 11), (160, 11)]

def chkKind (P : Program) (t : Nat) : Bool := match kindOf t with
  | none => true
  | some k => match P.underlying t with
    | some (.int k') => k == k'
    | _ => false
theorem chkKind_all : (List.range 1000).all (chkKind Try.prog) = true := by kernel_rfl
theorem chkKind_ok (t : Nat) (h : t < 1000) : chkKind Try.prog t = true := List.all_eq_true.1 chkKind_all t (List.mem_range.2 h)
def chkOne (P : Program) (t : Nat) : Bool := !one t || (match P.underlying t, P.info? t with
    | some (.struct _), _ | some (.array _ _), _ => false
    | some _, some i => i.size == 1
    | _, _ => false)
theorem chkOne_all : (List.range 1000).all (chkOne Try.prog) = true := by kernel_rfl
theorem chkOne_ok (t : Nat) (h : t < 1000) : chkOne Try.prog t = true := List.all_eq_true.1 chkOne_all t (List.mem_range.2 h)
def chkPtr (P : Program) (t : Nat) : Bool := !bit m_ptr t || (match P.underlying t with
  | some (.pointer _) => true
  | _ => false)
theorem chkPtr_all : (List.range 1000).all (chkPtr Try.prog) = true := by kernel_rfl
theorem chkPtr_ok (t : Nat) (h : t < 1000) : chkPtr Try.prog t = true := List.all_eq_true.1 chkPtr_all t (List.mem_range.2 h)
def chkFld (P : Program) (x : Nat × Nat) : Bool := match P.underlying (x.1 / 100) with
  | some (.struct fs) => match fs[x.1 % 100]? with
    | some f => f.offset == x.2 && (match P.info? f.type with
      | some i => i.size != 0
      | none => false)
    | none => false
  | _ => false
theorem chkFld_ok : l_fld.all (chkFld Try.prog) = true := by kernel_rfl
def chkSl (P : Program) (x : Nat × Nat) : Bool := match P.underlying x.1 with
  | some (.slice e) => match P.info? e with
    | some i => i.size == x.2
    | none => false
  | _ => false
theorem chkSl_ok : l_sl.all (chkSl Try.prog) = true := by kernel_rfl
def chkStr (P : Program) (t : Nat) : Bool := !isS t || (match P.underlying t with
  | some .string => true
  | _ => false)
theorem chkStr_all : (List.range 1000).all (chkStr Try.prog) = true := by kernel_rfl
theorem chkStr_ok (t : Nat) (h : t < 1000) : chkStr Try.prog t = true := List.all_eq_true.1 chkStr_all t (List.mem_range.2 h)
def chkAgg (P : Program) (x : Nat × Nat) : Bool := match P.underlying x.1, P.info? x.1 with
  | some (.struct _), some i | some (.array _ _), some i => i.size == x.2
  | _, _ => false
theorem chkAgg_ok : l_agg.all (chkAgg Try.prog) = true := by kernel_rfl
def chkArr (P : Program) (x : Nat × Nat) : Bool := match P.underlying x.1 with
  | some (.array n e) => n == x.2 && decide (1 < n) && (match P.info? e, get l_ae x.1 with
    | some i, some z => i.size == z
    | _, _ => false)
  | _ => false
theorem chkArr_ok : l_an.all (chkArr Try.prog) = true := by kernel_rfl
def m_cal : Nat := 633206330094472010610902040572
def cal (f : Nat) : Bool := Nat.ble (f + 1) 116 && bit m_cal f
def chkCal (P : Program) (f : Nat) : Bool := !bit m_cal f || (match P.funcs[f]? with
  | some fn => fn.body.isSome && fn.name != "runtime.NumGoroutine"
  | none => false)
theorem chkCal_all : (List.range 1000).all (chkCal Try.prog) = true := by kernel_rfl
theorem chkCal_ok (t : Nat) (h : t < 1000) : chkCal Try.prog t = true := List.all_eq_true.1 chkCal_all t (List.mem_range.2 h)
theorem mixed : Try.prog.follows .mixedOrders = true := by kernel_rfl
end Eng
end Go.Proofs.Ytighkjohpmlemaa
