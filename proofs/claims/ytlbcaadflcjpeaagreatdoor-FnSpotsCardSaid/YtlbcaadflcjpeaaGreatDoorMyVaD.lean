/- What is drawn: two texts of at most so many bytes; a text and a number; tokens and two texts; nothing that stood there is touched. Conditions: the code can be read and has at most 1048576 bytes. -/
import Derived.Test.YtlbcaadflcjpeaaGreatDoorMyVaL
import Derived.Test.YtlbcaadflcjpeaaGreatDoorPureSpo
import Derived.Test.YtlbcaadflcjpeaaGreatDoorPSpox11
import Derived.Laws.Bits128
import Derived.Test.YtlbcaadflcjpeaaGreatDoorPSpox10
set_option linter.unusedVariables false
set_option linter.unusedSimpArgs false
namespace Go.Proofs.YtlbcaadflcjpeaaGreatDoor.Va
open Go Go.RowKit Go.Proofs.YtlbcaadflcjpeaaGreatDoor.PSpo Go.Proofs.YtlbcaadflcjpeaaGreatDoor.Pure

theorem i64_and255 (n : Int) : Go.bits .and .i64 n 255 = n % 256 := by
  have h255 : (BitVec.ofInt 64 255).toNat = 2 ^ 8 - 1 := by decide
  have key : (BitVec.ofInt 64 n &&& BitVec.ofInt 64 255).toNat = (n % ((2 ^ 64 : Nat) : Int)).toNat % 2 ^ 8 := by
    rw [BitVec.toNat_and, BitVec.toNat_ofInt, h255, Nat.and_two_pow_sub_one_eq_mod]
  show IntKind.i64.wrap ((BitVec.ofInt 64 n &&& BitVec.ofInt 64 255).toNat : Nat) = n % 256
  rw [key, IntKind.wrap_i64]
  omega

/-- The cursor stands in its block. -/
def curJ (l0 : List Int) (w0 : World) (cb : Nat) (W : World) : Prop := ∃ f1 f2, 0 ≤ f1 ∧ f1 ≤ (l0.length : Int) ∧ IsS57 w0 W cb l0 f1 f2 ∧ Below w0.heap.size w0 W

def gh (l0 : List Int) (w0 : World) (cb b0 : Nat) (hb : w0.heap.size ≤ b0) : Gh where
  cb := cb
  b0 := b0
  J := curJ l0 w0 cb
  keep := fun w w' ⟨f1, f2, h0, h1, ⟨A0, c0, hc, hg, hr⟩, hB⟩ ho hk => by
    have hc' : w'.heap[cb]? = some (.cells #[.slice A0 l0.length c0, .int .i64 f1, .int .i64 f2] 57 (0, 0)) := by rw [hk cb (.inr rfl)]; exact hc
    have hlt : cb < w'.heap.size := (Array.getElem?_eq_some_iff.1 hc').1
    exact ⟨f1, f2, h0, h1, ⟨A0, c0, hc', hg, hr⟩, ho.1.trans hB.os, ho.2.1.trans hB.tape, ho.2.2.trans hB.output, by omega, fun k hk' => (hk k (.inl (by omega))).trans (hB.block k hk')⟩

theorem byte_f (l0 : List Int) (hl : l0.length ≤ 1048576) (f1 f2 : Int) (h0 : 0 ≤ f1) (h1 : f1 ≤ (l0.length : Int)) : ∃ r1 r2 r3, spec_l1Byte.f l0 f1 f2 = some (r1, r2, r3) ∧ 0 ≤ r1 ∧ r1 ≤ 255 ∧ 0 ≤ r2 ∧ r2 ≤ (l0.length : Int) := by
  unfold spec_l1Byte.f
  simp only [i64_and255]
  by_cases hlt : f1 < (l0.length : Int)
  · rw [if_pos hlt, if_pos h0]
    have hw : wrap64 (f1 + 1) = f1 + 1 := wrap_id (by omega) (by omega)
    exact ⟨_, _, _, rfl, by omega, by omega, by rw [hw]; omega, by rw [hw]; omega⟩
  · rw [if_neg hlt]
    exact ⟨_, _, _, rfl, by omega, by omega, h0, h1⟩

theorem byte_ok (l0 : List Int) (hl : l0.length ≤ 1048576) (w0 : World) (cb b0 : Nat) (hb : w0.heap.size ≤ b0) : ∀ i ∈ base, InstOk Tryz.prog theCx (gh l0 w0 cb b0 hb) i := by
  intro i hi
  have hi : i = { fn := 48, args := [c1], res := ints 0 255 } := by simpa [base] using hi
  subst hi
  refine ⟨⟨_, Tryz.func48, by kernel_rfl, by rfl⟩, fun S β tm w args W hargs => ?_⟩
  match args, hargs with
  | [v], ⟨⟨c, hc, hv⟩, _⟩ =>
    rw [List.mem_singleton] at hc
    subst hc
    have hv : v = .pointer (some ⟨cb, 0, none⟩) := hv
    subst hv
    obtain ⟨f1, f2, h0, h1, hI, hB⟩ := W.j
    obtain ⟨r1, r2, r3, hf, q0, q1, q2, q3⟩ := byte_f l0 hl f1 f2 h0 h1
    refine (spec_l1Byte.calls cb l0 f1 f2 r1 r2 r3 w0 w hI hB hf).mono ?_
    rintro e w' ⟨rfl, hI', hB', hK⟩
    have hk : ∀ b, b < w.heap.size → b ≠ cb → w'.heap[b]? = w.heap[b]? := fun b hb hc => hK.2 b hb hc (by simp)
    refine ⟨_, S, rfl, ⟨HLe.refl _, hK.1, fun b r h => .inl ⟨r, h⟩, fun b hb _ hc _ => hk b hb hc⟩, ⟨⟨r2, r3, q2, q3, hI', hB'⟩, Nat.le_trans W.b0 hK.1, Nat.lt_of_lt_of_le W.cb hK.1, fun b r h => ?_, fun b r h => ?_⟩, fun β tm => ⟨_, List.mem_singleton.2 rfl, r1, rfl, q0, q1⟩⟩
    · obtain ⟨d1, d2, d3⟩ := W.dom b r h
      exact ⟨d1, d2, Nat.lt_of_lt_of_le d3 hK.1⟩
    · exact (W.row b r h).up (HLe.refl _) (hk b (W.dom b r h).2.2 (W.dom b r h).2.1)
  | [], h => exact h.elim
  | _ :: _ :: _, h => exact h.2.elim

/-! ### The lexer -/
def lexI : Inst := { fn := 28, args := [sv (20 * bN 7)], res := .tup [[ro 8 0 6000], [.bl]] }
def tokC : List CT := [i64 1 5, st 1 1500, i64 1 1501, i64 1 1501]
def tokE : List CT := [ic 6, st 0 1500, i64 1 1501, i64 1 1501]
def tokRow : Row := { elem := 30, width := 4, els := [tokC, tokE] }
theorem row8 : theCx.row 8 = some tokRow := by rfl

theorem lex_ok {g : Gh} : InstOk Tryz.prog theCx g lexI := by
  refine ⟨⟨_, Tryz.func28, by kernel_rfl, by rfl⟩, fun S β tm w args W hargs => ?_⟩
  match args, hargs with
  | [v], ⟨⟨c, hc, hv⟩, _⟩ =>
    rw [List.mem_singleton] at hc
    subst hc
    obtain ⟨s, rfl, -, hs⟩ := hv
    have hs : s.size ≤ 2343750000 := hs
    obtain ⟨R, -, ⟨K, hK⟩, hlen, hT⟩ := lex_both s (by omega)
    obtain ⟨l, ok⟩ := R
    refine (spec_Lex.calls K s l ok w (hK K (Nat.le_refl _))).mono ?_
    rintro e w' ⟨v0, rfl, hR, hB⟩
    have hlen : l.length ≤ 6000 := hlen
    have W' : WOk theCx.rows theCx.sub g S w' := ⟨g.keep w w' W.j ⟨hB.os, hB.tape, hB.output⟩ fun b hb => hB.block b (by rcases hb with hb | rfl; exact Nat.lt_of_lt_of_le hb W.b0; exact W.cb), Nat.le_trans W.b0 hB.size, Nat.lt_of_lt_of_le W.cb hB.size,
      fun b r h => ⟨(W.dom b r h).1, (W.dom b r h).2.1, Nat.lt_of_lt_of_le (W.dom b r h).2.2 hB.size⟩, fun b r h => (W.row b r h).up (HLe.refl _) (hB.block b (W.dom b r h).2.2)⟩
    have bv : ∀ {S' : HT} (rows : List Row) (β : Nat → Nat) (tm : Array Value), CV theCx.sub g.cb S' (ro 8 0 6000) v0 → AVok theCx.sub g.cb S' rows β tm lexI.res (.tuple #[v0, .bool ok]) := fun rows β tm h =>
      ⟨#[v0, .bool ok], rfl, ⟨_, List.mem_singleton.2 rfl, h⟩, ⟨_, List.mem_singleton.2 rfl, ok, rfl⟩, trivial⟩
    obtain ⟨-, inner, ⟨hil, ho⟩, hrl, hre⟩ := hR
    rcases ho with ⟨rfl, hn⟩ | ⟨b, cap, cur, rfl, hbase, hh, hnc, hcm, hsz, htake⟩
    · exact ⟨_, S, rfl, ⟨HLe.refl _, hB.size, fun b r h => .inl ⟨r, h⟩, fun b hb _ _ _ => hB.block b hb⟩, W', fun β tm => bv _ β tm ⟨none, 0, 0, rfl, Nat.zero_le _, Nat.zero_le _, Nat.le_refl _, .inl rfl⟩⟩
    · have hSb : S b = none := by
        cases h : S b with
        | none => rfl
        | some r => have := (W.dom b r h).2.2; omega
      have hle : HLe S (S.put b ⟨8, cap, l.length⟩) := HT.put_le hSb
      have hlt : b < w'.heap.size := (Array.getElem?_eq_some_iff.1 hh).1
      have hcb := W.cb
      have hb0 := W.b0
      refine ⟨_, S.put b ⟨8, cap, l.length⟩, rfl, ⟨hle, hB.size, fun b' r h => ?_, fun b hb _ _ _ => hB.block b hb⟩, ⟨W'.j, W'.b0, W'.cb, fun b' r h => ?_, fun b' r h => ?_⟩, fun β tm => bv _ β tm ⟨_, l.length, cap, rfl, Nat.zero_le _, hlen, hnc, .inr ⟨b, ⟨8, cap, l.length⟩, rfl, by simp [HT.put], .inl rfl, Nat.le_refl _, Nat.le_refl _⟩⟩⟩
      · by_cases hbb : b' = b
        · subst hbb; exact .inr hbase
        · simp only [HT.put, if_neg hbb] at h
          exact .inl ⟨r, h⟩
      · by_cases hbb : b' = b
        · subst hbb; exact ⟨by omega, by omega, hlt⟩
        · simp only [HT.put, if_neg hbb] at h
          exact W'.dom b' r h
      · by_cases hbb : b' = b
        · subst hbb
          simp only [HT.put, if_true, Option.some.injEq] at h
          subst h
          refine ⟨tokRow, cur, row8, hh, hsz, hnc, fun i hi => ?_⟩
          have hi : i < l.length := hi
          have hm := hre i l[i] (List.getElem?_eq_getElem hi)
          have hm := k30_openM hm
          have ht := hT l[i] (List.getElem_mem _)
          have he : (cur.toList.drop (i * 4)).take 4 = (inner.drop (i * 4)).take 4 := by
            rw [← htake, List.drop_take, List.take_take]
            congr 1
            have : (i + 1) * 4 ≤ l.length * 4 := Nat.mul_le_mul_right _ hi
            show 4 = min 4 (l.length * 4 - i * 4)
            omega
          show CW theCx.sub g.cb _ [tokC, tokE] ((cur.toList.drop (i * 4)).take 4)
          rw [he]
          have hm : (inner.drop (i * 4)).take 4 = _ := hm
          rw [hm]
          have ends : CL theCx.sub g.cb (S.put b' ⟨8, cap, l.length⟩) [i64 1 1501, i64 1 1501] [.int .i64 l[i].f2, .int .i64 l[i].f3] := ⟨⟨_, rfl, ht.l.1, ht.l.2⟩, ⟨_, rfl, ht.c.1, ht.c.2⟩, trivial⟩
          by_cases h6 : l[i].f0 = 6
          · exact ⟨tokE, by simp, ⟨_, rfl, by omega, by omega⟩, ⟨_, rfl, Nat.zero_le _, ht.w⟩, ends⟩
          · obtain ⟨p, q, hq, hqs, hqe, -⟩ := ht.at_ h6
            have hsz : 1 ≤ l[i].f1.size := by rw [hqe, ex_size s p (p + q) (by omega) hqs]; omega
            have hk1 := ht.k.1
            have hk2 := ht.k.2
            exact ⟨tokC, by simp, ⟨_, rfl, hk1, by omega⟩, ⟨_, rfl, hsz, ht.w⟩, ends⟩
        · simp only [HT.put, if_neg hbb] at h
          exact (W'.row b' r h).up hle rfl
  | [], h => exact h.elim
  | _ :: _ :: _, h => exact h.2.elim

/-! ### What comes behind the cursor -/
def ends (cx : Cx) (fn : Func) (res : AV) (l : List (Ex × St)) : Bool := l.all fun | (.normal, s) | (.ret, s) => resOk cx fn res s | _ => false

def restChk (fn : Func) (cx : Cx) (s : St) (res : AV) : Bool :=
  match fn.body with
  | some (.seq _ (.seq _ c)) => (match exec cx c s with | some l => ends cx fn res l | none => false)
  | _ => false

theorem rest_sound {P : Program} {cx : Cx} {g : Gh} {S0 S : HT} {w0 w : World} {s : St} {β : Nat → Nat} {a : Act} (H : CxOk P cx) (HI : ∀ i ∈ cx.insts, InstOk P cx g i) (hm : P.follows .mixedOrders = true) (hb0 : g.b0 ≤ w0.heap.size)
    {fn : Func} {x y c : Code} (hbody : fn.body = some (.seq x (.seq y c))) {res : AV} (hc : restChk fn cx s res = true) (I : SOk cx g S0 w0 s S β a w) {R : Ending → World → Prop}
    (hR : ∀ v S' w', Stp g S0 w0 S' w' (fun _ => False) → WOk cx.rows cx.sub g S' w' → (∀ β tm, AVok cx.sub g.cb S' cx.rows β tm res v) → R (.returned v) w') : c.wp P (bodyPost P fn R) a w := by
  unfold restChk at hc
  rw [hbody] at hc
  simp only at hc
  split at hc
  · rename_i l hex
    refine wp_mono (exec_sound H HI hm hb0 c s l hex S β a w I) fun e a' w' hg => ?_
    obtain ⟨x, s', S', β', hmem, rfl, I'⟩ := hg
    have hr := List.all_eq_true.1 hc _ hmem
    cases x with
    | normal =>
      obtain ⟨v, hv, hok⟩ := resOk_sound H I' hr
      exact ⟨I'.df, v, hv, hR v S' w' I'.stp I'.wok hok⟩
    | ret =>
      obtain ⟨v, hv, hok⟩ := resOk_sound H I' hr
      exact ⟨I'.df, v, hv, hR v S' w' I'.stp I'.wok hok⟩
    | exit k => simp at hr
  · cases hc

def cx5 : Cx := cxOf 5 (upTo 221)
def cx11 : Cx := cxOf 11 (upTo 221)
def cx12 : Cx := cxOf 12 (lexI :: upTo 221)
def sCur (t : Nat) : St := { tm := [(t, c1)], bx := [] }
theorem rest5 : restChk Tryz.f5 cx5 (sCur 4) (.tup [[st 0 (20 * bN 7)], [nm]]) = true := by kernel_rfl
theorem rest11 : restChk Tryz.f11 cx11 (sCur 4) (.tup [[st 0 (20 * bN 7)], [full .i64]]) = true := by kernel_rfl
theorem rest12 : restChk Tryz.f12 cx12 (sCur 5) (.tup [[ro 8 0 6000], [nm], [st 1 8]]) = true := by kernel_rfl

theorem cx_known {f : FuncId} {l : List Inst} {g : Gh} (h : ∀ i ∈ l, InstOk Tryz.prog theCx g i) : CxOk Tryz.prog (cxOf f l) ∧ ∀ i ∈ (cxOf f l).insts, InstOk Tryz.prog (cxOf f l) g i := by
  obtain ⟨e1, e2, e3, e4⟩ := cxOf_eq f l
  refine ⟨theCx_ok.of e1 e2 e3, fun k hk => ?_⟩
  rcases e4 with e | e
  · rw [e] at hk
    exact InstOk.of e1 e2 (h k hk)
  · rw [e] at hk
    cases hk

theorem mixed : Tryz.prog.follows .mixedOrders = true := by kernel_rfl

/-- The state behind the cursor's making. -/
theorem cur_start {l0 : List Int} {w0 w : World} {cb : Nat} {r3 : Int} (hI : IsS57 w0 w cb l0 0 r3) (hB : Below w0.heap.size w0 w) {cx : Cx} {a : Act} {t : Nat} (hsz : a.tmps.size = cx.ntmps) (hdf : a.defers = []) (ht : a.tmps.getD t undef = .pointer (some ⟨cb, 0, none⟩)) :
    SOk cx (gh l0 w0 cb w.heap.size hB.size) (fun _ => none) w (sCur t) (fun _ => none) (fun _ => 0) a w := by
  have hlt : cb < w.heap.size := by
    obtain ⟨A0, c0, hc, -⟩ := hI
    exact (Array.getElem?_eq_some_iff.1 hc).1
  refine ⟨⟨⟨0, r3, Int.le_refl _, by omega, hI, hB⟩, Nat.le_refl _, hlt, fun b r h => (by cases h), fun b r h => (by cases h)⟩, Stp.refl _, hsz, hdf, fun u => ?_, fun t vs h => by simp [sCur, St.box] at h, fun t h => by simp [sCur, St.box] at h, fun t _ h => by simp [sCur, St.box] at h⟩
  unfold St.get sCur
  by_cases hu : t = u
  · subst hu
    simp only [List.find?_cons, beq_self_eq_true, Option.map_some, Option.getD_some]
    exact ⟨_, List.mem_singleton.2 rfl, ht⟩
  · have : (t == u) = false := by simp [hu]
    simp only [List.find?_cons, this, List.find?_nil, Option.map_none, Option.getD_none]
    trivial

theorem new_f (l0 : List Int) (hl : l0.length ≤ 1048576) : ∀ (d i : Nat) (x : Int), i + d = l0.length → ∃ r3, Ev (fun k => spec_l1New.l0 k l0 x (i : Int)) (l0, 0, r3) := by
  intro d
  induction d with
  | zero =>
    intro i x hi
    refine ⟨x, Ev.succ ?_⟩
    simp only [spec_l1New.l0]
    exact Ev.neg (by omega) (Ev.const _)
  | succ d ih =>
    intro i x hi
    by_cases h4 : (i : Int) < 4000
    · obtain ⟨r3, h⟩ := ih (i + 1) _ (by omega)
      refine ⟨r3, Ev.succ ?_⟩
      simp only [spec_l1New.l0, wrap_succ (by omega : i < 9223372036854775807)]
      exact Ev.pos (by omega) (Ev.pos h4 (Ev.pos (by omega) h))
    · refine ⟨x, Ev.succ ?_⟩
      simp only [spec_l1New.l0]
      exact Ev.pos (by omega) (Ev.neg h4 (Ev.const _))

theorem new_ok (l0 : List Int) (hl : l0.length ≤ 1048576) : ∃ k r3, spec_l1New.f k l0 = some (l0, 0, r3) := by
  obtain ⟨r3, K, hK⟩ := new_f l0 hl l0.length 0 (wrap64 (945945 + (l0.length : Int))) (by omega)
  exact ⟨K, r3, hK K (Nat.le_refl _)⟩
end Go.Proofs.YtlbcaadflcjpeaaGreatDoor.Va
set_option linter.unusedVariables false
set_option linter.unusedSimpArgs false
namespace Go.Proofs.YtlbcaadflcjpeaaGreatDoor.Va
open Go.RowKit Go.Proofs.YtlbcaadflcjpeaaGreatDoor.PSpo Go.Proofs.YtlbcaadflcjpeaaGreatDoorW.PrintWords Go.Proofs.YtlbcaadflcjpeaaGreatDoorW.PrintLast Go.Proofs.YtlbcaadflcjpeaaGreatDoorW.PrintMore

theorem curJ_below {l0 : List Int} {w0 w' : World} {cb b0 : Nat} {hb : w0.heap.size ≤ b0} (h : (gh l0 w0 cb b0 hb).J w') : Below w0.heap.size w0 w' :=
  let ⟨_, _, _, _, _, hB⟩ := h; hB

/-- Two texts of a tuple's kinds. -/
theorem two_of {sub cb S rows β tm} {a b : List CT} {v : Value} (h : AVok sub cb S rows β tm (.tup [a, b]) v) : ∃ x y, v = .tuple #[x, y] ∧ CO sub cb S a x ∧ CO sub cb S b y := by
  obtain ⟨vs, rfl, h⟩ := h
  obtain ⟨l⟩ := vs
  match l, h with
  | [x, y], ⟨h1, h2, _⟩ => exact ⟨x, y, rfl, h1, h2⟩
  | [], h => exact h.elim
  | [_], ⟨_, h⟩ => exact h.elim
  | _ :: _ :: _ :: _, ⟨_, _, h⟩ => exact h.elim

theorem three_of {sub cb S rows β tm} {a b c : List CT} {v : Value} (h : AVok sub cb S rows β tm (.tup [a, b, c]) v) : ∃ x y z, v = .tuple #[x, y, z] ∧ CO sub cb S a x ∧ CO sub cb S b y ∧ CO sub cb S c z := by
  obtain ⟨vs, rfl, h⟩ := h
  obtain ⟨l⟩ := vs
  match l, h with
  | [x, y, z], ⟨h1, h2, h3, _⟩ => exact ⟨x, y, z, rfl, h1, h2, h3⟩
  | [], h => exact h.elim
  | [_], ⟨_, h⟩ => exact h.elim
  | [_, _], ⟨_, _, h⟩ => exact h.elim
  | _ :: _ :: _ :: _ :: _, ⟨_, _, _, h⟩ => exact h.elim

theorem str_of {sub cb S lo hi} {v : Value} (h : CO sub cb S [.str lo hi] v) : ∃ s : ByteArray, v = .string s ∧ s.size ≤ hi ∧ lo ≤ s.size := by
  obtain ⟨c, hc, h⟩ := h
  rw [List.mem_singleton] at hc
  subst hc
  obtain ⟨s, e, h0, h⟩ := h
  exact ⟨s, e, h, h0⟩

theorem int_of {sub cb S k lo hi} {v : Value} (h : CO sub cb S [.int k lo hi] v) : ∃ n : Int, v = .int k n ∧ lo ≤ n ∧ n ≤ hi := by
  obtain ⟨c, hc, h⟩ := h
  rw [List.mem_singleton] at hc
  subst hc
  exact h

/-- Tokens of a row that is known. -/
theorem toks_of {g : Gh} {S : HT} {w : World} (W : WOk theCx.rows theCx.sub g S w) {v : Value} (h : CO theCx.sub g.cb S [ro 8 0 6000] v) : ∃ (A : Option Addr) (c : Nat) (l : List S30), v = .slice A l.length c ∧ l.length ≤ c ∧ l.length ≤ 6000 ∧ (∀ t ∈ l, t.f1.size ≤ 1500 ∧ (t.f0 ≠ 6 → 1 ≤ t.f1.size)) ∧ Kd.C k30 w A l.length l := by
  obtain ⟨ct, hc, h⟩ := h
  rw [List.mem_singleton] at hc
  subst hc
  obtain ⟨A, n, c, rfl, -, hn, hnc, hr⟩ := h
  by_cases hn0 : n = 0
  · subst hn0
    exact ⟨A, c, [], rfl, Nat.zero_le _, Nat.zero_le _, fun t ht => (by cases ht), rfl, Nat.zero_le _, fun h => absurd h (Nat.lt_irrefl _)⟩
  · rcases hr with hr | ⟨b, r, rfl, hb, hs, hf, hcap⟩
    · omega
    · have hnm : r.nm = 8 := by
        rcases hs with hs | ⟨-, hs⟩
        · exact hs
        · exact absurd hs (by have : ∀ x ∈ theCx.sub, x.2 ≠ 8 := by decide
                              exact fun h => this _ h rfl)
      obtain ⟨R, cells, hR, hh, hsz, hfc, hel⟩ := W.row b r hb
      rw [hnm] at hR
      have hR : theCx.row 8 = some R := hR
      rw [row8] at hR
      cases hR
      have hsz : cells.size = r.cap * 4 := hsz
      have hex : ∀ i, i < n → ∃ t : S30, (cells.toList.drop (i * 4)).take 4 = [.int .i64 t.f0, .string t.f1, .int .i64 t.f2, .int .i64 t.f3] ∧ (t.f1.size ≤ 1500 ∧ (t.f0 ≠ 6 → 1 ≤ t.f1.size)) := fun i hi => by
        obtain ⟨x, hx, hcl⟩ := hel i (by omega)
        have hx : x ∈ [tokC, tokE] := hx
        rcases List.mem_cons.1 hx with rfl | hx
        · have hcl : CL theCx.sub g.cb S tokC ((cells.toList.drop (i * 4)).take 4) := hcl
          generalize (cells.toList.drop (i * 4)).take 4 = q at hcl
          match q, hcl with
          | [_, _, _, _], ⟨⟨n0, e0, _⟩, ⟨s, e1, hs1, hs⟩, ⟨n2, e2, _⟩, ⟨n3, e3, _⟩, _⟩ =>
            subst e0 e1 e2 e3
            exact ⟨⟨n0, s, n2, n3⟩, rfl, hs, fun _ => hs1⟩
        · rw [List.mem_singleton] at hx
          subst hx
          have hcl : CL theCx.sub g.cb S tokE ((cells.toList.drop (i * 4)).take 4) := hcl
          generalize (cells.toList.drop (i * 4)).take 4 = q at hcl
          match q, hcl with
          | [_, _, _, _], ⟨⟨n0, e0, h1, h2⟩, ⟨s, e1, hs1, hs⟩, ⟨n2, e2, _⟩, ⟨n3, e3, _⟩, _⟩ =>
            subst e0 e1 e2 e3
            exact ⟨⟨n0, s, n2, n3⟩, rfl, hs, fun h6 => absurd (by simp only; omega) h6⟩
      let l : List S30 := (List.range n).map fun i => if hi : i < n then Classical.choose (hex i hi) else z30
      have hl : l.length = n := by simp [l]
      have hat : ∀ i t, l[i]? = some t → i < n ∧ (cells.toList.drop (i * 4)).take 4 = [.int .i64 t.f0, .string t.f1, .int .i64 t.f2, .int .i64 t.f3] ∧ (t.f1.size ≤ 1500 ∧ (t.f0 ≠ 6 → 1 ≤ t.f1.size)) := fun i t ht => by
        have hi : i < n := by rw [← hl]; exact (List.getElem?_eq_some_iff.1 ht).1
        simp only [l, List.getElem?_map, List.getElem?_range hi, Option.map_some, dif_pos hi, Option.some.injEq] at ht
        subst ht
        exact ⟨hi, Classical.choose_spec (hex i hi)⟩
      refine ⟨some ⟨b, 0, none⟩, c, l, by rw [hl], by omega, by omega, fun t ht => ?_, rfl, by omega, fun _ => ⟨_, rfl, fun j p hp => ?_⟩⟩
      · obtain ⟨i, hi, rfl⟩ := List.mem_iff_getElem.1 ht
        exact (hat i _ (List.getElem?_eq_getElem hi)).2.2
      · obtain ⟨hj, hc4, -⟩ := hat j p hp
        refine ⟨_, rfl, k30_mk w p, fun i u hu => ?_⟩
        show w.cell? ((⟨b, 0, none⟩ : Addr).add (j * 4 + i)) = some u
        rw [add_lit, cell_of_row w b (0 + (j * 4 + i)) cells 30 (0, 0) hh, Nat.zero_add]
        rw [← hc4, List.getElem?_take] at hu
        split at hu
        · simpa using hu
        · cases hu

set_option maxHeartbeats 8000000 in
set_option maxRecDepth 100000 in
theorem drawSpots_calls (A0 : Option Addr) (c0 : Nat) (l0 : List Int) (w : World) (hr0 : Kd.C (Kd.int .u8) w A0 l0.length l0) (hc0 : l0.length ≤ c0) (hl : l0.length ≤ 1048576) :
    Calls Tryz.prog 5 #[.slice A0 l0.length c0] w fun e w' => ∃ s n : ByteArray, e = .returned (.tuple #[.string s, .string n]) ∧ s.size ≤ 2343750000 ∧ n.size ≤ 8 ∧ Below w.heap.size w w' := by
  obtain ⟨k, r3, hn⟩ := new_ok l0 hl
  go_enter Tryz.func5, Tryz.ntmps5
  refine wp_seq_k fun K1 h1 => ?_
  have H1 := Aside0.mk h1
  clear h1
  go_wp2
  refine H1.out _ _ ?_
  clear H1
  refine wp_seq_k fun K2 h2 => ?_
  have H2 := Aside0.mk h2
  clear h2
  go_wp2_with (first | ((with_reducible refine gate_callee (f := 18) rfl ?_); refine goesL_ (some 6) rfl rfl Tryz.func18 (by kernel_rfl) rfl #[.slice A0 l0.length c0] rfl (by (try simp only [List.map_toArray, List.map_cons, List.map_nil]); first | done | rfl) ?_; (with_reducible refine (spec_l1New.calls k A0 c0 l0 l0 0 r3 w w (Below.refl _ _) hr0 hc0 hn).mono ?_); rintro e w1 ⟨g_, rfl, hI, hB, hB1⟩; refine ⟨_, rfl, ?_⟩))
  refine H2.out _ _ ?_
  clear H2
  obtain ⟨H, HI⟩ := cx_known (f := 5) (all_insts (byte_ok l0 hl w g_ w1.heap.size hB.size))
  refine rest_sound (fn := Tryz.f5) H HI mixed (Nat.le_refl _) rfl rest5 (cur_start hI hB rfl rfl rfl) fun v S' w' hs W hv => ?_
  obtain ⟨x, y, rfl, hx, hy⟩ := two_of (hv (fun _ => 0) #[])
  obtain ⟨s, rfl, hs, -⟩ := str_of hx
  obtain ⟨n, rfl, hn, -⟩ := str_of hy
  exact ⟨s, n, rfl, hs, hn, curJ_below W.j⟩

set_option maxHeartbeats 8000000 in
set_option maxRecDepth 100000 in
theorem drawLineOf_calls (A0 : Option Addr) (c0 : Nat) (l0 : List Int) (w : World) (hr0 : Kd.C (Kd.int .u8) w A0 l0.length l0) (hc0 : l0.length ≤ c0) (hl : l0.length ≤ 1048576) :
    Calls Tryz.prog 11 #[.slice A0 l0.length c0] w fun e w' => ∃ (s : ByteArray) (n : Int), e = .returned (.tuple #[.string s, .int .i64 n]) ∧ s.size ≤ 2343750000 ∧ (-9223372036854775808 ≤ n ∧ n ≤ 9223372036854775807) ∧ Below w.heap.size w w' := by
  obtain ⟨k, r3, hn⟩ := new_ok l0 hl
  go_enter Tryz.func11, Tryz.ntmps11
  refine wp_seq_k fun K1 h1 => ?_
  have H1 := Aside0.mk h1
  clear h1
  go_wp2
  refine H1.out _ _ ?_
  clear H1
  refine wp_seq_k fun K2 h2 => ?_
  have H2 := Aside0.mk h2
  clear h2
  go_wp2_with (first | ((with_reducible refine gate_callee (f := 18) rfl ?_); refine goesL_ (some 6) rfl rfl Tryz.func18 (by kernel_rfl) rfl #[.slice A0 l0.length c0] rfl (by (try simp only [List.map_toArray, List.map_cons, List.map_nil]); first | done | rfl) ?_; (with_reducible refine (spec_l1New.calls k A0 c0 l0 l0 0 r3 w w (Below.refl _ _) hr0 hc0 hn).mono ?_); rintro e w1 ⟨g_, rfl, hI, hB, hB1⟩; refine ⟨_, rfl, ?_⟩))
  refine H2.out _ _ ?_
  clear H2
  obtain ⟨H, HI⟩ := cx_known (f := 11) (all_insts (byte_ok l0 hl w g_ w1.heap.size hB.size))
  refine rest_sound (fn := Tryz.f11) H HI mixed (Nat.le_refl _) rfl rest11 (cur_start hI hB rfl rfl rfl) fun v S' w' hs W hv => ?_
  obtain ⟨x, y, rfl, hx, hy⟩ := two_of (hv (fun _ => 0) #[])
  obtain ⟨s, rfl, hs, -⟩ := str_of hx
  obtain ⟨n, rfl, hn⟩ := int_of hy
  exact ⟨s, n, rfl, hs, hn, curJ_below W.j⟩

set_option maxHeartbeats 8000000 in
set_option maxRecDepth 100000 in
theorem drawTurned_calls (A0 : Option Addr) (c0 : Nat) (l0 : List Int) (w : World) (hr0 : Kd.C (Kd.int .u8) w A0 l0.length l0) (hc0 : l0.length ≤ c0) (hl : l0.length ≤ 1048576) :
    Calls Tryz.prog 12 #[.slice A0 l0.length c0] w fun e w' => ∃ (A : Option Addr) (c : Nat) (l : List S30) (s n : ByteArray), e = .returned (.tuple #[.slice A l.length c, .string s, .string n]) ∧ l.length ≤ c ∧ l.length ≤ 6000 ∧ (∀ t ∈ l, t.f1.size ≤ 1500 ∧ (t.f0 ≠ 6 → 1 ≤ t.f1.size)) ∧ Kd.C k30 w' A l.length l ∧ s.size ≤ 8 ∧ n.size ≤ 8 ∧ 1 ≤ n.size ∧ Below w.heap.size w w' := by
  obtain ⟨k, r3, hn⟩ := new_ok l0 hl
  go_enter Tryz.func12, Tryz.ntmps12
  refine wp_seq_k fun K1 h1 => ?_
  have H1 := Aside0.mk h1
  clear h1
  go_wp2
  refine H1.out _ _ ?_
  clear H1
  refine wp_seq_k fun K2 h2 => ?_
  have H2 := Aside0.mk h2
  clear h2
  go_wp2_with (first | ((with_reducible refine gate_callee (f := 18) rfl ?_); refine goesL_ (some 9) rfl rfl Tryz.func18 (by kernel_rfl) rfl #[.slice A0 l0.length c0] rfl (by (try simp only [List.map_toArray, List.map_cons, List.map_nil]); first | done | rfl) ?_; (with_reducible refine (spec_l1New.calls k A0 c0 l0 l0 0 r3 w w (Below.refl _ _) hr0 hc0 hn).mono ?_); rintro e w1 ⟨g_, rfl, hI, hB, hB1⟩; refine ⟨_, rfl, ?_⟩))
  refine H2.out _ _ ?_
  clear H2
  have hk : ∀ i ∈ lexI :: upTo 221, InstOk Tryz.prog theCx (gh l0 w g_ w1.heap.size hB.size) i := fun i hi => by
    rcases List.mem_cons.1 hi with rfl | hi
    · exact lex_ok
    · exact all_insts (byte_ok l0 hl w g_ w1.heap.size hB.size) i hi
  obtain ⟨e1, e2, -, -⟩ := cxOf_eq 12 (lexI :: upTo 221)
  obtain ⟨H, HI⟩ := cx_known (f := 12) hk
  refine rest_sound (fn := Tryz.f12) H HI mixed (Nat.le_refl _) rfl rest12 (cur_start hI hB rfl rfl rfl) fun v S' w' hs W hv => ?_
  rw [e1, e2] at W
  obtain ⟨x, y, z, rfl, hx, hy, hz⟩ := three_of (hv (fun _ => 0) #[])
  rw [e2] at hx
  obtain ⟨s, rfl, hs, -⟩ := str_of hy
  obtain ⟨n, rfl, hn, hn1⟩ := str_of hz
  obtain ⟨A, c, l, rfl, h1, h2, h3, h4⟩ := toks_of W hx
  exact ⟨A, c, l, s, n, rfl, h1, h2, h3, h4, hs, hn, hn1, curJ_below W.j⟩

set_option maxHeartbeats 8000000 in
set_option maxRecDepth 100000 in
theorem drawDefSpot_calls (A0 : Option Addr) (c0 : Nat) (l0 : List Int) (w : World) (hr0 : Kd.C (Kd.int .u8) w A0 l0.length l0) (hc0 : l0.length ≤ c0) (hl : l0.length ≤ 1048576) :
    Calls Tryz.prog 8 #[.slice A0 l0.length c0] w fun e w' => ∃ s n : ByteArray, e = .returned (.tuple #[.string s, .string n]) ∧ s.size ≤ 2343750000 ∧ n.size ≤ 8 ∧ Below w.heap.size w w' := by
  go_enter Tryz.func8, Tryz.ntmps8
  go_wp2_with (first | ((with_reducible refine gate_callee (f := 5) rfl ?_); refine goesL_ (some 5) rfl rfl Tryz.func5 (by kernel_rfl) rfl #[.slice A0 l0.length c0] rfl (by (try simp only [List.map_toArray, List.map_cons, List.map_nil]); first | done | rfl) ?_; (with_reducible refine (drawSpots_calls A0 c0 l0 w hr0 hc0 hl).mono ?_); rintro e w1 ⟨s, n, rfl, hs, hn, hB⟩; refine ⟨_, rfl, ?_⟩))
  go_ret2
  exact ⟨s, n, rfl, hs, hn, hB⟩
end Go.Proofs.YtlbcaadflcjpeaaGreatDoor.Va
