import PyProof.Rows.All
import Wide.All
import OpenK.AllK
import Wide.FinOn
import KE.KStateDown
import Lean
import HandS.ForMost
import HandS.ForExc
import HandS.TryMany
import HandS.ExcIs
import HandS.IsInst
import HandS.Defaults
import HandS.ClsMeth
import HandS.EndBits
import HandS.Wide
import HandS.NoneIn
import HandS.Style
import HandS.Head0
import HandS.Head1
import HandS.Head2
import HandS.HeadEnd
import HandS.HeadHook1
import HandS.HeadHook2
import HandS.HeadHook3
import HandS.HeadHook4
import PySem.Challenge.RW_wakefew_k01_a_whole_number
set_option Elab.async false
set_option linter.all false
set_option maxRecDepth 100000
set_option maxHeartbeats 4000000
namespace W
open PySem PySem.Spec PyProof.Rows L2
/-- a promise's first word: so that no walk goes into it by itself -/
inductive Go : Prop where
  | go
def fdOf (K : PySem.W.Frag) (p : Str × Option Str) : FuncData := match K.lookup (He.fAd K p) with
  | some ⟨_, _, .func fd, _⟩ => fd
  | _ => default
abbrev FnT (K : PySem.W.Frag) (p : Str × Option Str) (x q : Str) (st : Stmt) (dvs : List V) : Prop := FunD K x q (defArgs st) (defBody st) (defScope st) dvs [] (He.fAd K p) (fdOf K p)
theorem fnT_mk {K : PySem.W.Frag} {p : Str × Option Str} {x q : Str} {st : Stmt} {dvs : List V} {fd : FuncData} (F : FunD K x q (defArgs st) (defBody st) (defScope st) dvs [] (He.fAd K p) fd) : FnT K p x q st dvs := by
  have e : fdOf K p = fd := by
    obtain ⟨oc, od, dV, kV, doc, pm, an, cdv, ct, osl, rfl, lk, _⟩ := F.ex
    unfold fdOf
    rw [lk]
  show FunD K x q (defArgs st) (defBody st) (defScope st) dvs [] (He.fAd K p) (fdOf K p)
  rw [e]
  exact F
/-- two readings of one expression -/
theorem PE.or {X : Cx} {e : Expr} {t u : TE} (h : PE X e t) (k : PE X e u) : PE X e (fun σ H Q => t σ H Q ∨ u σ H Q) :=
  ⟨fun pins s σ H Q I z => z.elim (h.run pins s σ H Q I) (k.run pins s σ H Q I)⟩
theorem PT.or {X : Cx} {e : Expr} {t u : TT} (h : PT X e t) (k : PT X e u) : PT X e (fun σ H Q => t σ H Q ∨ u σ H Q) :=
  ⟨fun pins s σ H Q I z => z.elim (h.run pins s σ H Q I) (k.run pins s σ H Q I)⟩
/-- a function read off its class: C.m(self, ..) -/
structure ClsFn (K : PySem.W.Frag) (C : Addr) (m : Str) (f : Addr) : Prop where
  rd : ClX.CRead K C (.type "type")
  at_ : PySem.W.findCls K (.ref C) (.type "type") m = some (.val (.ref f))
  kp : PySem.W.keepIn K (.ref f) = true
theorem pe_clsfn {X : Cx} {CX : CXT} {k : Nat} {f C : Addr} {fd : FuncData} {ps : List Str} {sp : Sp} {dvs : List V} {ds : List Value} {E : XK} {x m : Str} {p pos apos : Pos} {e : Expr} {es : List Expr} {t : TA} {pl : Sem Bool} (c : ClsFn X.K C m f)
    (F : FnOk X.prog X.w X.K X.mg X.base CX k f fd ps sp) (hr : Room k X.A) (hg : Gl X x) (hm : X.mg x = some (.ref C)) (hb : Binds X.K fd ps ds) (hd : Vals dvs ds) (hx : Passes CX X E)
    (ha : PA X (e :: es) t) (hdb : (x == ("__debug__" : Str)) = false := by decide) (hst : starEach (e :: es) X.env = (false, eval e X.env) :: starEach es X.env := by rfl) (hpl : (backTo pos (starEach es X.env)).any (·.1) = false := by rfl)
    (ht : eval (.Call (.Attribute (.Name x p) m apos) (e :: es) [] pos) X.env = (do
      let ov ← eval (.Name x p) X.env
      standAt apos.atName
      let (f, first) ← holding [ov] (getMethod ov m pl)
      callWith pos f first (backTo pos (starEach (e :: es) X.env)) (backToKw pos (keywordEach [] X.env))) := by rfl) :
    PE X (.Call (.Attribute (.Name x p) m apos) (e :: es) [] pos) (tCall sp dvs E t) := by
  refine ⟨fun pins s σ H Q I h => ?_⟩
  refine PySem.W.methodCall_KW (pl := pl) (ld_glob I hg hm ?_ hdb) ht
  refine PySem.W.method_cls I.kIn c.rd.ga ?_
  refine PySem.W.cls_value I.kIn c.rd.rd c.at_ rfl ?_
  have I1 := I.tok (s.toks + 1)
  refine PySem.W.callWith_K (h₀ := X.base) (first := []) I.ok.mod.kin c.kp (thn (ha.run pos pins _ σ H _ I1 h) fun us s1 ⟨vs, H1, I2, r, q⟩ => ⟨I2.kIn, ?_⟩) hst hpl
  exact run_fn F hr hb hd hx I2 r q
/-! ### heaps -/
theorem upd_keep {H : Hp} {a b : Addr} {o u : HO} (h : H b = some u) (n : H a = none) : upd H a o b = some u := by
  rw [upd_ne (ne_of_none h n)]
  exact h
theorem same_new {H : Hp} {p : Addr} {o : HO} (h : H p = none) : Same H (upd H p o) := fun a u e => upd_keep e h
/-- laid, then written -/
theorem upd_keep2 {H : Hp} {a b : Addr} {o u v : HO} (h : H b = some v) (n : H a = none) : upd (upd H a o) a u b = some v := by
  rw [upd_upd]
  exact upd_keep h n
theorem same_upd2 {H : Hp} {p : Addr} {o u : HO} (h : H p = none) : Same H (upd (upd H p o) p u) := fun a v e => upd_keep2 e h
/-- what H0 did not know is written -/
theorem same_mut {H0 H : Hp} {p : Addr} {o : HO} (s : Same H0 H) (h : H0 p = none) : Same H0 (upd H p o) := fun a u e => by
  rw [upd_ne (ne_of_none e h)]
  exact s a u e
theorem Same.seqT {K : PySem.W.Frag} {H H' : Hp} {a : Addr} {xs : List V} (e : Same H H') (h : SqT K H a xs) : SqT K H' a xs := by
  rcases h with (h | ⟨o, h⟩) | h
  · exact .inl (.inl (e _ _ h))
  · exact .inl (.inr ⟨o, e _ _ h⟩)
  · exact .inr h
theorem iteD {c A B : Prop} [Decidable c] (h1 : c → A) (h2 : ¬ c → B) : if decide c = true then A else B := by
  by_cases h : c
  · rw [decide_eq_true h]
    exact iteT (h1 h)
  · rw [decide_eq_false h]
    exact iteF (h2 h)
theorem iteDT {c A B : Prop} [Decidable c] (h : c) (h1 : A) : if decide c = true then A else B := by
  rw [decide_eq_true h]
  exact iteT h1
theorem iteDF {c A B : Prop} [Decidable c] (h : ¬ c) (h1 : B) : if decide c = true then A else B := by
  rw [decide_eq_false h]
  exact iteF h1
theorem iteN {c A B : Prop} [Decidable c] (h1 : c → B) (h2 : ¬ c → A) : if (!decide c) = true then A else B := by
  by_cases h : c
  · rw [decide_eq_true h]
    exact iteF (h1 h)
  · rw [decide_eq_false h]
    exact iteT (h2 h)
theorem iteB {b : Bool} {A B : Prop} (h1 : b = true → A) (h2 : b = false → B) : if b = true then A else B := by
  cases b with
  | true => exact iteT (h1 rfl)
  | false => exact iteF (h2 rfl)
theorem iteE {b c : Bool} {A B : Prop} (e : b = c) (h : if c = true then A else B) : if b = true then A else B := by
  rw [e]
  exact h
theorem V.int_inj {i j : Int} : (V.int i = V.int j) ↔ i = j := ⟨fun h => by injection h, fun h => by rw [h]⟩
theorem V.str_inj {i j : Str} : (V.str i = V.str j) ↔ i = j := ⟨fun h => by injection h, fun h => by rw [h]⟩
theorem V.bl_inj {i j : Bool} : (V.bl i = V.bl j) ↔ i = j := ⟨fun h => by injection h, fun h => by rw [h]⟩
/-! ### facts read off the written part -/
def clsFnB (x m : Str) (K : PySem.W.Frag) : Bool := PySem.W.readsIn K (He.ga K x) (.type "type") && (decide (PySem.W.specialIn K (.ref (He.ga K x)) "__getattribute__" = some (some (.builtin "type.__getattribute__"))) &&
  ((match PySem.W.findCls K (.ref (He.ga K x)) (.type "type") m with
    | some (.val (.ref a)) => decide (a = He.fAd K (x, some m))
    | _ => false) && PySem.W.keepIn K (.ref (He.fAd K (x, some m)))))
theorem clsFn_ok {K : PySem.W.Frag} {x m : Str} (h : clsFnB x m K = true) : ClsFn K (He.ga K x) m (He.fAd K (x, some m)) := by
  obtain ⟨h1, h⟩ := He.ba h
  obtain ⟨h2, h⟩ := He.ba h
  obtain ⟨h3, h4⟩ := He.ba h
  refine ⟨⟨h1, of_decide_eq_true h2⟩, ?_, h4⟩
  split at h3
  · rename_i a e
    rw [e, of_decide_eq_true h3]
  · cases h3
structure InsT (K : PySem.W.Frag) (C : Addr) : Prop where
  ha : PySem.W.findIn K (.ref C) "__class__" = some (some (.builtin "object.__class__"))
  hn : PySem.W.specialIn K (.builtin "object.__class__") "__get__" = some (some (.builtin "getset_descriptor.__get__"))
  htk : PySem.W.takesIn K (.builtin "object.__class__") = some true
  hm : PySem.W.mroIn K C (.type "object") = some true
def insTB (x : Str) (K : PySem.W.Frag) : Bool := decide (PySem.W.findIn K (.ref (He.ga K x)) "__class__" = some (some (.builtin "object.__class__"))) && (decide (PySem.W.specialIn K (.builtin "object.__class__") "__get__" = some (some (.builtin "getset_descriptor.__get__"))) &&
  (decide (PySem.W.takesIn K (.builtin "object.__class__") = some true) && decide (PySem.W.mroIn K (He.ga K x) (.type "object") = some true)))
theorem insT_ok {K : PySem.W.Frag} {x : Str} (h : insTB x K = true) : InsT K (He.ga K x) := by
  obtain ⟨h1, h⟩ := He.ba h
  obtain ⟨h2, h⟩ := He.ba h
  obtain ⟨h3, h4⟩ := He.ba h
  exact ⟨of_decide_eq_true h1, of_decide_eq_true h2, of_decide_eq_true h3, of_decide_eq_true h4⟩
theorem InsT.ty {K : PySem.W.Frag} {C a dx : Addr} {H : Hp} {fs : List (Str × V)} (i : InsT K C) (c : Cls K C) (e : H a = some (.ins C dx fs)) : TyX K H (.ref a) (.ref C) := .base (.ins e c i.ha i.hn i.htk i.hm)
def kitB2 (x y : Str) (b : Bool) (K : PySem.W.Frag) : Bool := decide (PySem.W.kitOne K (.ref (He.ga K x)) (.ref (He.ga K y)) = some b)
theorem kitB2_ok {K : PySem.W.Frag} {x y : Str} {b : Bool} (h : kitB2 x y b K = true) : PySem.W.kitOne K (.ref (He.ga K x)) (.ref (He.ga K y)) = some b := of_decide_eq_true h
def kitB3 (x : Str) (y : String) (b : Bool) (K : PySem.W.Frag) : Bool := decide (PySem.W.kitOne K (.ref (He.ga K x)) (.type y) = some b)
theorem kitB3_ok {K : PySem.W.Frag} {x : Str} {y : String} {b : Bool} (h : kitB3 x y b K = true) : PySem.W.kitOne K (.ref (He.ga K x)) (.type y) = some b := of_decide_eq_true h
/-- the end, with the script's bits told, and that nothing but the script is tracked -/
theorem walk_ofEB {l : PySem.W.OpenLaw} {n k : Nat} {q : Program} {loose : List Str} {XP : (Str → Option Value) → Heap → Prop} {YP : World → Heap → Prop} {d : DefRec} {CX : CXT} {x : Str}
    (hn : l.most = some n) (hn2 : n ≤ sizeLine) (hdf : d.params.defaults = []) (hr : Room k callerA)
    (F : ∀ (w : World) (mg : Str → Option Value) (fa : Addr) (h : Heap), YP w h → h.Ns mainGlobals mg → mg d.name = some (.ref fa) →
      ∃ (K : PySem.W.Frag) (fd : FuncData) (sp : Sp), K.In h ∧ (∀ (s : Shared) (u : Value), BindsTo s fd ⟨[u], []⟩ [(x, u)]) ∧
        (∀ (H : Hp) (a : Addr) (ns : List Int), ns.length ≤ n → (∀ z ∈ ns, Builtin.Int.intBits z ≤ 1048576) → Only H → SqL K H a (ns.map V.int) → sp [.ref a] H (fun v _ => v = .bl true) fun _ _ _ => False) ∧
        ∀ base : Heap, K.In base → base.Ns mainGlobals mg → FnOk l.prog w K mg base CX k fa fd [x] sp)
    (hCX : ∀ (H : Hp) (s : Shared) (e : Value) (s' : Shared), CX [] H s (fun _ _ _ => False) e s' → False) :
    PySem.W.WalkO q loose XP YP l.row.toRowW d [] (fun f vs => PySem.call f vs) := by
  refine Att.attach_callB hn hdf fun w s₀ s₁ mg mb fa o pm cd doc a vs ns G Y ho hd hcd hmg hobj hints hlen hbits hg => ?_
  obtain ⟨K, fd, sp, KX, hb, hsp, hF⟩ := F w mg fa _ Y G.T.g hmg
  exact law_call KX G.T.g G.T.b G.T.builtins G.T.nolimit hg hobj hints (Nat.le_trans hlen hn2) hr hF hb (fun H hO hS => hsp H a ns hlen hbits hO hS) fun H e s' => hCX H s₁ e s'
/-- the law's promise: a list of at most 63 ints is handed in, True comes out -/
structure sp_law (K : PySem.W.Frag) (vs : List V) (H : Hp) (Q : VK) (E : XK) : Prop where
  tt : Go
  ex : ∃ (a : Addr) (ns : List Int), vs = [.ref a] ∧ SqL K H a (ns.map V.int) ∧ ns.length ≤ 63 ∧ (∀ z ∈ ns, Builtin.Int.intBits z ≤ 1048576) ∧ Only H ∧ ∀ H', Q (.bl true) H'
/-! ### new objects: the heap behind by what is known of it -/
theorem PE.imp {X : Cx} {e : Expr} {t t' : TE} (h : PE X e t) (k : ∀ σ H Q, t' σ H Q → t σ H Q) : PE X e t' := ⟨fun pins s σ H Q I z => h.run pins s σ H Q I (k σ H Q z)⟩
theorem OpR.imp {X : Cx} {f : Value → Value → Sem Value} {r r' : R2} (h : OpR X f r) (k : ∀ x y H Q, r' x y H Q → r x y H Q) : OpR X f r' := fun pins s σ H x y v u Q I a b z => h pins s σ H x y v u Q I a b (k x y H Q z)
theorem CallR.imp {X : Cx} {f : Value} {r r' : List V → Hp → VK → Prop} (h : CallR X f r) (k : ∀ xs H Q, r' xs H Q → r xs H Q) : CallR X f r' := fun pins s σ H xs us Q I a z => h pins s σ H xs us Q I a (k xs H Q z)
/-- Q of a new object o -/
def New (H : Hp) (o : HO) (Q : VK) : Prop := ∀ (p : Addr) (H' : Hp), H p = none → Same H H' → H' p = some o → Q (.ref p) H'
theorem New.at_ {H : Hp} {o : HO} {Q : VK} (h : New H o Q) (p : Addr) (hp : H p = none) : Q (.ref p) (upd H p o) := h p _ hp (same_new hp) upd_same
def tTupN (t : TA) : TE := fun σ H Q => t σ H fun xs H1 => xs.length ≤ sizeLine ∧ New H1 (.tup xs) Q
def tLstN (t : TA) : TE := fun σ H Q => t σ H fun xs H1 => xs.length ≤ sizeLine ∧ New H1 (.lst xs) Q
theorem pa_mono {X : Cx} {es : List Expr} {t : TA} (h : PA X es t) : PA X es (fun σ H Q => ∃ Q', (∀ xs H1, Q' xs H1 → Q xs H1) ∧ t σ H Q') := ⟨fun pos pins s σ H Q I ⟨Q', k, z⟩ => thn (h.run pos pins s σ H Q' I z) fun us s1 ⟨vs, H1, I1, r, q⟩ => ⟨vs, H1, I1, r, k _ _ q⟩⟩
section
variable {X : Cx} {es : List Expr} {t : TA} {pos : Pos}
theorem pe_tupN {x1} (h : PA X es t) : PE X (.Tuple es x1 pos) (tTupN t) := PE.imp (pe_tup (pa_mono h)) fun σ H Q z => ⟨_, fun xs H1 w => ⟨w.1, w.2.at_⟩, z⟩
theorem pe_lstN (h : PA X es t) : PE X (.List es pos) (tLstN t) := PE.imp (pe_lst (pa_mono h)) fun σ H Q z => ⟨_, fun xs H1 w => ⟨w.1, w.2.at_⟩, z⟩
theorem pe_dnewN : PE X (.Dict [] [] pos) (fun _ H Q => New H (.dK []) Q) := PE.imp pe_dnewK fun σ H Q z => z.at_
theorem pe_dnewTN : PE X (.Dict [] [] pos) (fun _ H Q => New H (.dT []) Q) := PE.imp pe_dnewT fun σ H Q z => z.at_
def rSlN (K : PySem.W.Frag) : V → Option Int → Option Int → Hp → VK → Prop := fun x lo hi H Q => ∃ a xs, x = .ref a ∧ SqL K H a xs ∧ New H (.lst (cutV xs lo hi)) Q
theorem SlR.imp {r r' : V → Option Int → Option Int → Hp → VK → Prop} (h : SlR X r) (k : ∀ x lo hi H Q, r' x lo hi H Q → r x lo hi H Q) : SlR X r' := by
  intro pins s σ H x v vl vu lo hi sl Q I rx hs pl pu z
  exact h pins s σ H x v vl vu lo hi sl Q I rx hs pl pu (k _ _ _ _ _ z)
theorem sl_listN : SlR X (rSlN X.K) := SlR.imp sl_list fun x lo hi H Q ⟨a, xs, e, h, z⟩ => ⟨a, xs, e, h, z.at_⟩
def rListN (K : PySem.W.Frag) : List V → Hp → VK → Prop := fun xs H Q => ∃ p ys, xs = [.ref p] ∧ (SqL K H p ys ∨ SqT K H p ys) ∧ New H (.lst ys) Q
theorem call_list_ofN : CallR X (.type "list") (rListN X.K) := CallR.imp call_list_of fun xs H Q ⟨p, ys, e, h, z⟩ => ⟨p, ys, e, h, z.at_⟩
def rCatN : R2 := fun x y H Q => ∃ l b xs zs, x = .ref l ∧ y = .ref b ∧ H l = some (.lst xs) ∧ H b = some (.lst zs) ∧ xs.length + zs.length ≤ sizeLine ∧ New H (.lst (xs ++ zs)) Q
theorem op_catN : OpR X (binaryOp .Add) rCatN := OpR.imp op_cat fun x y H Q ⟨l, b, xs, zs, e1, e2, h1, h2, h3, z⟩ => ⟨l, b, xs, zs, e1, e2, h1, h2, h3, z.at_⟩
end
/-! ### more rules -/
theorem pe_powC (n : Nat) {X : Cx} {j j2 : Nat} {b : Int} {p1 p2 pos : Pos} (h0 : decide (n ≤ 1000000) = true := by rfl) (hb : decide (b.natAbs < 2 ^ 64) = true := by rfl) :
    PE X (.BinOp (.Constant (.int b) j p1) .Pow (.Constant (.int (n : Int)) j2 p2) pos) (tC (.int (b ^ n))) := by
  refine ⟨fun pins s σ H Q I h => ?_⟩
  have e := (pe_op (X := X) (pos := pos) op_pow (pe_int (i := b) (j := j) (pos := p1)) (pe_int (i := (n : Int)) (j := j2) (pos := p2))).run pins s σ H Q I
  refine e ⟨b, n, rfl, rfl, ⟨by omega, ?_, of_decide_eq_true hb⟩, ?_⟩
  · have := of_decide_eq_true h0
    omega
  · exact h
end W

namespace W
open PySem PySem.Spec PyProof.Rows L2
def top (i : Nat) : Stmt := PySem.Challenge.pw_wakefew_k01_a_whole_number.main.body.getD i (.Pass ⟨0, 0, 0, 0⟩)
abbrev s_cell_at : Stmt := top 3
abbrev s_is_whole : Stmt := top 1
abbrev s_thing : Stmt := top 4
abbrev s_law : Stmt := top 5
structure Txt (K : PySem.W.Frag) (mg : Str → Option Value) : Prop where
  z_len : mg "len" = none
  d_cell_at : FnT K ("_law_cell_at", none) "_law_cell_at" "_law_cell_at" s_cell_at []
  g_cell_at : mg "_law_cell_at" = some (.ref (He.ga K "_law_cell_at"))
  z_range : mg "range" = none
  z_int : mg "int" = none
  z_isinstance : mg "isinstance" = none
  z_bool : mg "bool" = none
  z_str : mg "str" = none
  d_thing : FnT K ("_law_thing", none) "_law_thing" "_law_thing" s_thing []
  g_thing : mg "_law_thing" = some (.ref (He.ga K "_law_thing"))
  d_is_whole : FnT K ("is_whole", none) "is_whole" "is_whole" s_is_whole []
  g_is_whole : mg "is_whole" = some (.ref (He.ga K "is_whole"))
  d_law : FnT K ("law", none) "law" "law" s_law []
  g_law : mg "law" = some (.ref (He.ga K "law"))
theorem kt_int_int {K : PySem.W.Frag} : PySem.W.kitOne K (.type "int") (.type "int") = some true := kit_ty (by decide +kernel)
theorem kt_int_bool {K : PySem.W.Frag} : PySem.W.kitOne K (.type "int") (.type "bool") = some false := kit_ty (by decide +kernel)
theorem kt_int_str {K : PySem.W.Frag} : PySem.W.kitOne K (.type "int") (.type "str") = some false := kit_ty (by decide +kernel)
theorem kt_int_list {K : PySem.W.Frag} : PySem.W.kitOne K (.type "int") (.type "list") = some false := kit_ty (by decide +kernel)
theorem kt_int_tuple {K : PySem.W.Frag} : PySem.W.kitOne K (.type "int") (.type "tuple") = some false := kit_ty (by decide +kernel)
theorem kt_int_dict {K : PySem.W.Frag} : PySem.W.kitOne K (.type "int") (.type "dict") = some false := kit_ty (by decide +kernel)
theorem kt_bool_int {K : PySem.W.Frag} : PySem.W.kitOne K (.type "bool") (.type "int") = some true := kit_ty (by decide +kernel)
theorem kt_bool_bool {K : PySem.W.Frag} : PySem.W.kitOne K (.type "bool") (.type "bool") = some true := kit_ty (by decide +kernel)
theorem kt_bool_str {K : PySem.W.Frag} : PySem.W.kitOne K (.type "bool") (.type "str") = some false := kit_ty (by decide +kernel)
theorem kt_bool_list {K : PySem.W.Frag} : PySem.W.kitOne K (.type "bool") (.type "list") = some false := kit_ty (by decide +kernel)
theorem kt_bool_tuple {K : PySem.W.Frag} : PySem.W.kitOne K (.type "bool") (.type "tuple") = some false := kit_ty (by decide +kernel)
theorem kt_bool_dict {K : PySem.W.Frag} : PySem.W.kitOne K (.type "bool") (.type "dict") = some false := kit_ty (by decide +kernel)
theorem kt_str_int {K : PySem.W.Frag} : PySem.W.kitOne K (.type "str") (.type "int") = some false := kit_ty (by decide +kernel)
theorem kt_str_bool {K : PySem.W.Frag} : PySem.W.kitOne K (.type "str") (.type "bool") = some false := kit_ty (by decide +kernel)
theorem kt_str_str {K : PySem.W.Frag} : PySem.W.kitOne K (.type "str") (.type "str") = some true := kit_ty (by decide +kernel)
theorem kt_str_list {K : PySem.W.Frag} : PySem.W.kitOne K (.type "str") (.type "list") = some false := kit_ty (by decide +kernel)
theorem kt_str_tuple {K : PySem.W.Frag} : PySem.W.kitOne K (.type "str") (.type "tuple") = some false := kit_ty (by decide +kernel)
theorem kt_str_dict {K : PySem.W.Frag} : PySem.W.kitOne K (.type "str") (.type "dict") = some false := kit_ty (by decide +kernel)
theorem kt_NoneType_int {K : PySem.W.Frag} : PySem.W.kitOne K (.type "NoneType") (.type "int") = some false := kit_ty (by decide +kernel)
theorem kt_NoneType_bool {K : PySem.W.Frag} : PySem.W.kitOne K (.type "NoneType") (.type "bool") = some false := kit_ty (by decide +kernel)
theorem kt_NoneType_str {K : PySem.W.Frag} : PySem.W.kitOne K (.type "NoneType") (.type "str") = some false := kit_ty (by decide +kernel)
theorem kt_NoneType_list {K : PySem.W.Frag} : PySem.W.kitOne K (.type "NoneType") (.type "list") = some false := kit_ty (by decide +kernel)
theorem kt_NoneType_tuple {K : PySem.W.Frag} : PySem.W.kitOne K (.type "NoneType") (.type "tuple") = some false := kit_ty (by decide +kernel)
theorem kt_NoneType_dict {K : PySem.W.Frag} : PySem.W.kitOne K (.type "NoneType") (.type "dict") = some false := kit_ty (by decide +kernel)
theorem kt_list_int {K : PySem.W.Frag} : PySem.W.kitOne K (.type "list") (.type "int") = some false := kit_ty (by decide +kernel)
theorem kt_list_bool {K : PySem.W.Frag} : PySem.W.kitOne K (.type "list") (.type "bool") = some false := kit_ty (by decide +kernel)
theorem kt_list_str {K : PySem.W.Frag} : PySem.W.kitOne K (.type "list") (.type "str") = some false := kit_ty (by decide +kernel)
theorem kt_list_list {K : PySem.W.Frag} : PySem.W.kitOne K (.type "list") (.type "list") = some true := kit_ty (by decide +kernel)
theorem kt_list_tuple {K : PySem.W.Frag} : PySem.W.kitOne K (.type "list") (.type "tuple") = some false := kit_ty (by decide +kernel)
theorem kt_list_dict {K : PySem.W.Frag} : PySem.W.kitOne K (.type "list") (.type "dict") = some false := kit_ty (by decide +kernel)
theorem kt_tuple_int {K : PySem.W.Frag} : PySem.W.kitOne K (.type "tuple") (.type "int") = some false := kit_ty (by decide +kernel)
theorem kt_tuple_bool {K : PySem.W.Frag} : PySem.W.kitOne K (.type "tuple") (.type "bool") = some false := kit_ty (by decide +kernel)
theorem kt_tuple_str {K : PySem.W.Frag} : PySem.W.kitOne K (.type "tuple") (.type "str") = some false := kit_ty (by decide +kernel)
theorem kt_tuple_list {K : PySem.W.Frag} : PySem.W.kitOne K (.type "tuple") (.type "list") = some false := kit_ty (by decide +kernel)
theorem kt_tuple_tuple {K : PySem.W.Frag} : PySem.W.kitOne K (.type "tuple") (.type "tuple") = some true := kit_ty (by decide +kernel)
theorem kt_tuple_dict {K : PySem.W.Frag} : PySem.W.kitOne K (.type "tuple") (.type "dict") = some false := kit_ty (by decide +kernel)
theorem kt_dict_int {K : PySem.W.Frag} : PySem.W.kitOne K (.type "dict") (.type "int") = some false := kit_ty (by decide +kernel)
theorem kt_dict_bool {K : PySem.W.Frag} : PySem.W.kitOne K (.type "dict") (.type "bool") = some false := kit_ty (by decide +kernel)
theorem kt_dict_str {K : PySem.W.Frag} : PySem.W.kitOne K (.type "dict") (.type "str") = some false := kit_ty (by decide +kernel)
theorem kt_dict_list {K : PySem.W.Frag} : PySem.W.kitOne K (.type "dict") (.type "list") = some false := kit_ty (by decide +kernel)
theorem kt_dict_tuple {K : PySem.W.Frag} : PySem.W.kitOne K (.type "dict") (.type "tuple") = some false := kit_ty (by decide +kernel)
theorem kt_dict_dict {K : PySem.W.Frag} : PySem.W.kitOne K (.type "dict") (.type "dict") = some true := kit_ty (by decide +kernel)
theorem szN {α : Type} {xs : List α} (h : Nat.ble xs.length 100 = true) : xs.length ≤ sizeLine := Nat.le_trans (Nat.le_of_ble_eq_true h) (by decide)
theorem szL {α : Type} {xs : List α} (h : Nat.ble xs.length 100 = true) : xs.length < sizeLine := Nat.lt_of_le_of_lt (Nat.le_of_ble_eq_true h) (by decide)
theorem lg {n : Int} (h : n.natAbs < 2 ^ 200) : n.natAbs.log2 < 1920 := PySem.Flt.log2_lt_of (by decide) (Nat.lt_of_lt_of_le h (Nat.pow_le_pow_right (by decide) (by decide : 200 ≤ 1920)))
theorem mulC {i j : Int} (h : i.natAbs.log2 + j.natAbs.log2 < 1000000) : CMulW i j := h
local macro_rules | `(tactic| walk_at "side") => `(tactic| first
  | (assumption; done)
  | decide +kernel
  | (dsimp only; decide +kernel)
  | exact mulC (by decide +kernel)
  | (dsimp only; omega))
local macro_rules | `(tactic| walk_at "rd1") => `(tactic| first
  | refine ⟨_, rfl, ?_⟩
  | refine ⟨_, _, rfl, rfl, by walk_at "side", ?_⟩
  | refine ⟨_, _, rfl, rfl, ?_⟩
  | refine ⟨rfl, ?_⟩
  | refine ⟨szN rfl, ?_⟩
  | ((with_reducible show (ite (_ = true) _ _)); first | refine iteF ?_ | refine iteT ?_)
  | refine ⟨_, _, _, _, _, rfl, .ty _, (by walk_at "ty"), (by walk_at "kit"), ?_⟩)
local macro_rules | `(tactic| walk_at "ty") => `(tactic| first
  | (assumption; done)
  | exact .base (.bl _)
  | exact .base (.int _)
  | exact .base (.str _)
  | exact .base .non
  | exact .base (.tup (by assumption))
  | exact .base (.lst (by assumption)))
local macro_rules | `(tactic| walk_at "kit") => `(tactic| first
  | (assumption; done)
  | exact kt_int_int
  | exact kt_int_bool
  | exact kt_int_str
  | exact kt_int_list
  | exact kt_int_tuple
  | exact kt_int_dict
  | exact kt_bool_int
  | exact kt_bool_bool
  | exact kt_bool_str
  | exact kt_bool_list
  | exact kt_bool_tuple
  | exact kt_bool_dict
  | exact kt_str_int
  | exact kt_str_bool
  | exact kt_str_str
  | exact kt_str_list
  | exact kt_str_tuple
  | exact kt_str_dict
  | exact kt_NoneType_int
  | exact kt_NoneType_bool
  | exact kt_NoneType_str
  | exact kt_NoneType_list
  | exact kt_NoneType_tuple
  | exact kt_NoneType_dict
  | exact kt_list_int
  | exact kt_list_bool
  | exact kt_list_str
  | exact kt_list_list
  | exact kt_list_tuple
  | exact kt_list_dict
  | exact kt_tuple_int
  | exact kt_tuple_bool
  | exact kt_tuple_str
  | exact kt_tuple_list
  | exact kt_tuple_tuple
  | exact kt_tuple_dict
  | exact kt_dict_int
  | exact kt_dict_bool
  | exact kt_dict_str
  | exact kt_dict_list
  | exact kt_dict_tuple
  | exact kt_dict_dict)
local macro_rules | `(tactic| walk_at "rd") => `(tactic| repeat (walk_at "rd1"))
def cellAt (ns : List Int) (i : Int) : Int := ns.getD i.toNat 0
theorem cellAt_at {ns : List Int} {i : Int} (h0 : 0 ≤ i) (h : i < ((ns.map V.int).length : Int)) : atI (ns.map V.int) i = some (.int (cellAt ns i)) := by
  have e : i = ((i.toNat : Nat) : Int) := (Int.toNat_of_nonneg h0).symm
  rw [List.length_map] at h
  have hl : i.toNat < ns.length := by omega
  rw [e]
  refine atI_nat ?_
  rw [List.getElem?_map, List.getElem?_eq_getElem hl]
  unfold cellAt
  rw [← e, List.getD_eq_getElem?_getD, List.getElem?_eq_getElem hl] <;> rfl
theorem cellAt_out {ns : List Int} {i : Int} (h0 : 0 ≤ i) (h : ¬ i < ((ns.map V.int).length : Int)) : cellAt ns i = 0 := by
  rw [List.length_map] at h
  unfold cellAt
  rw [List.getD_eq_getElem?_getD, List.getElem?_eq_none (by omega)] <;> rfl
def bTys : List String := ["int", "bool", "str", "NoneType", "list", "tuple", "dict"]
def tI (t : String) : Bool := t == "int" || t == "bool"
theorem kit_int {K : PySem.W.Frag} {t : String} (h : t ∈ bTys) : PySem.W.kitOne K (.type t) (.type "int") = some (tI t) := by
  simp only [bTys, List.mem_cons, List.not_mem_nil, or_false] at h
  rcases h with rfl | rfl | rfl | rfl | rfl | rfl | rfl <;> exact kit_ty (by decide +kernel)
theorem kit_bool {K : PySem.W.Frag} {t : String} (h : t ∈ bTys) : PySem.W.kitOne K (.type t) (.type "bool") = some (t == "bool") := by
  simp only [bTys, List.mem_cons, List.not_mem_nil, or_false] at h
  rcases h with rfl | rfl | rfl | rfl | rfl | rfl | rfl <;> exact kit_ty (by decide +kernel)
theorem kit_or {t : String} (h : t ∈ bTys) : tI t = tI t := rfl
theorem kit_nb {t : String} (h : t ∈ bTys) (e : tI t = true) : (t == "int") = !(t == "bool") := by
  simp only [bTys, List.mem_cons, List.not_mem_nil, or_false] at h
  rcases h with rfl | rfl | rfl | rfl | rfl | rfl | rfl <;> revert e <;> decide +kernel
theorem kit_ni {t : String} (h : t ∈ bTys) (e : tI t = false) : (t == "int") = false := by
  simp only [bTys, List.mem_cons, List.not_mem_nil, or_false] at h
  rcases h with rfl | rfl | rfl | rfl | rfl | rfl | rfl <;> revert e <;> decide +kernel

theorem bTys_mem {t : String} (h : bTys.contains t = true) : t ∈ bTys := List.contains_iff_mem.mp h
theorem pick10 {x0 x1 x2 x3 x4 x5 x6 x7 x8 x9 : V} {i : Int} (h0 : 0 ≤ i) (h1 : i < 10) : atI [x0, x1, x2, x3, x4, x5, x6, x7, x8, x9] i = some ([x0, x1, x2, x3, x4, x5, x6, x7, x8, x9].getD i.toNat .non) := by
  have hi : i = 0 ∨ i = 1 ∨ i = 2 ∨ i = 3 ∨ i = 4 ∨ i = 5 ∨ i = 6 ∨ i = 7 ∨ i = 8 ∨ i = 9 := by omega
  rcases hi with rfl | rfl | rfl | rfl | rfl | rfl | rfl | rfl | rfl | rfl <;> rfl
section
variable {P : Program} {w : World} {K : PySem.W.Frag} {mg : Str → Option Value} {base : Heap}
theorem sc_cell_at : FnScope ["_law_script", "_law_k"] ["_law_script", "_law_k"] (defScope s_cell_at) := ⟨rfl, rfl, rfl, by decide +kernel, rfl, by decide +kernel, by decide +kernel⟩
structure sp_cell_at (K : PySem.W.Frag) (vs : List V) (H : Hp) (Q : VK) (E : XK) : Prop where
  tt : Go
  ex : ∃ (a : Addr) (ns : List Int) (i : Int), vs = [.ref a, .int i] ∧ SqL K H a (ns.map V.int) ∧ 0 ≤ i ∧ Q (.int (cellAt ns i)) H
set_option maxHeartbeats 4000000 in
theorem ok_cell_at (T : Txt K mg) : FnOk P w K mg base CX0 1 (He.fAd K ("_law_cell_at", none)) (fdOf K ("_law_cell_at", none)) ["_law_script", "_law_k"] (sp_cell_at K) := by
  refine T.d_cell_at.ok sc_cell_at (fun vs H Q E h => ?_) (fun cdv A outer s H vs Q E hr h => ?_)
  · obtain ⟨a, ns, i, rfl, _⟩ := h.ex
    rfl
  · obtain ⟨a, ns, i, rfl, hS, h0, k⟩ := h.ex
    refine ⟨_, (PSs.nox (pss_cons (ps_if (pt_cmpR op_lt (pv 1) (pe_callB call_len_seq (by rfl) T.z_len (by decide +kernel) (pa_cons (pv 0) pa_nil)) (nomark _)) (pss_one (ps_ret (pe_ix ix_list (pv 0) (pv 1) (fun _ _ => rfl)))) pss_nil)
      (pss_one (ps_ret pe_int)))), ?_⟩
    refine ⟨_, rfl, _, rfl, _, _, rfl, .inl hS, _, _, rfl, rfl, _, rfl, ?_⟩
    refine iteD (fun h => ?_) (fun h => ?_)
    · exact ⟨_, rfl, _, rfl, a, _, i, _, rfl, rfl, hS, cellAt_at h0 h, k⟩
    · rw [cellAt_out h0 h] at k
      exact k
theorem b_cell_at (T : Txt K mg) : Binds K (fdOf K ("_law_cell_at", none)) ["_law_script", "_law_k"] [] := T.d_cell_at.bindsN fun _ _ _ _ _ _ us hl => match us, hl with | [_, _], _ => rfl
theorem sc_is_whole : FnScope ["thing"] ["thing"] (defScope s_is_whole) := ⟨rfl, rfl, rfl, by decide +kernel, rfl, by decide +kernel, by decide +kernel⟩
structure sp_is_whole (K : PySem.W.Frag) (vs : List V) (H : Hp) (Q : VK) (E : XK) : Prop where
  tt : Go
  ex : ∃ (x : V) (t : String), vs = [x] ∧ TyX K H x (.type t) ∧ t ∈ bTys ∧ Q (.bl (t == "int")) H
set_option maxHeartbeats 4000000 in
theorem ok_is_whole (T : Txt K mg) : FnOk P w K mg base CX0 1 (He.fAd K ("is_whole", none)) (fdOf K ("is_whole", none)) ["thing"] (sp_is_whole K) := by
  refine T.d_is_whole.ok sc_is_whole (fun vs H Q E h => ?_) (fun cdv A outer s H vs Q E hr h => ?_)
  · obtain ⟨x, t, rfl, _⟩ := h.ex
    rfl
  · obtain ⟨x, t, rfl, hty, ht, k⟩ := h.ex
    refine ⟨_, (PSs.nox (pss_one (ps_ret (pe_and (pe_callB call_isi (by rfl) T.z_isinstance (by decide +kernel) (pa_cons (pv 0) (pa_cons (pe_bltn (v := .ty "int") (by rfl) T.z_int (by decide +kernel) rfl) pa_nil))) (pe_one (pe_not (pe_callB call_isi (by rfl) T.z_isinstance (by decide +kernel) (pa_cons (pv 0) (pa_cons (pe_bltn (v := .ty "bool") (by rfl) T.z_bool (by decide +kernel) rfl) pa_nil))))))))), ?_⟩
    refine ⟨_, rfl, _, _, _, _, _, rfl, .ty _, hty, kit_int ht, _, rfl, ?_⟩
    refine iteE (kit_or ht) ?_
    refine iteB (fun e => ?_) (fun e => ?_)
    · refine ⟨_, rfl, _, _, _, _, _, rfl, .ty _, hty, kit_bool ht, _, rfl, ?_⟩
      rw [kit_nb ht e] at k
      exact k
    · rw [kit_ni ht e] at k
      exact k
theorem b_is_whole (T : Txt K mg) : Binds K (fdOf K ("is_whole", none)) ["thing"] [] := T.d_is_whole.bindsN fun _ _ _ _ _ _ us hl => match us, hl with | [_], _ => rfl
theorem sc_thing : FnScope ["_law_number", "_law_way", "_law_some"] ["_law_number", "_law_way"] (defScope s_thing) := ⟨rfl, rfl, rfl, by decide +kernel, rfl, by decide +kernel, by decide +kernel⟩
structure sp_thing (K : PySem.W.Frag) (vs : List V) (H : Hp) (Q : VK) (E : XK) : Prop where
  tt : Go
  ex : ∃ (n i : Int), vs = [.int n, .int i] ∧ n.natAbs.log2 < 1920 ∧ 0 ≤ i ∧ i < 10 ∧ ∀ (x : V) (H' : Hp) (t : String), Same H H' → TyX K H' x (.type t) → t ∈ bTys → ((t == "int") = decide (i = 0)) → Q x H'
set_option maxHeartbeats 4000000 in
theorem ok_thing (T : Txt K mg) : FnOk P w K mg base CX0 1 (He.fAd K ("_law_thing", none)) (fdOf K ("_law_thing", none)) ["_law_number", "_law_way"] (sp_thing K) := by
  refine T.d_thing.ok sc_thing (fun vs H Q E h => ?_) (fun cdv A outer s H vs Q E hr h => ?_)
  · obtain ⟨n, i, rfl, _⟩ := h.ex
    rfl
  · obtain ⟨n, i, rfl, hb, h0, h1, k⟩ := h.ex
    refine ⟨_, (PSs.nox (pss_cons (ps_set (i := 2) sc_thing.nd rfl (Or.inl rfl) (pe_lstN (pa_cons (pv 0) (pa_cons (pe_callTy call_str_int (by rfl) T.z_str (by decide +kernel) (pa_cons (pv 0) pa_nil)) (pa_cons (pe_lstN (pa_cons (pv 0) pa_nil)) (pa_cons (pe_tupN (pa_cons (pv 0) pa_nil)) (pa_cons (pe_disp (pps_cons (pv 0) (pv 0) pps_nil) (by rfl) (by rfl) (fun z => by cases z) (by decide)) (pa_cons pe_non (pa_cons pe_bl (pa_cons pe_bl (pa_cons pe_str (pa_cons (pe_lstN pa_nil) pa_nil))))))))))))
      (pss_one (ps_ret (pe_ix ix_list (pv 2) (pv 1) (fun _ _ => rfl)))))), ?_⟩
    walk_at "rd"
    refine ⟨hb, ?_⟩
    walk_at "rd"
    intro l H1 hl s1 e1 
    walk_at "rd"
    intro t H2 ht s2 e2 
    walk_at "rd"
    intro d hd
    walk_at "rd"
    refine ⟨upd_same, [(Sum.inl n, .int n)], rfl, (by show 1 ≤ 15; decide), ?_⟩
    obtain ⟨H3, eH3⟩ : ∃ H3, H3 = upd (upd H2 d (.dK [])) d (.dK (mergeK [] [(Sum.inl n, V.int n)])) := ⟨_, rfl⟩
    have e3 : H3 d = some (.dK (mergeK [] [(Sum.inl n, V.int n)])) := by rw [eH3]; exact upd_same
    have s3 : Same H2 H3 := by rw [eH3]; exact same_upd2 hd
    rw [← eH3]
    walk_at "rd"
    intro l2 H4 hl2 s4 e4 
    walk_at "rd"
    intro m H5 hm s5 e5
    refine ⟨_, rfl, _, rfl, m, _, i, _, rfl, rfl, SqL.of e5, pick10 h0 h1, ?_⟩
    have s0 := s1.trans (s2.trans (s3.trans (s4.trans s5)))
    have hi : i = 0 ∨ i = 1 ∨ i = 2 ∨ i = 3 ∨ i = 4 ∨ i = 5 ∨ i = 6 ∨ i = 7 ∨ i = 8 ∨ i = 9 := by omega
    rcases hi with rfl | rfl | rfl | rfl | rfl | rfl | rfl | rfl | rfl | rfl
    · exact k _ _ "int" s0 (.base (.int _)) (bTys_mem (by decide +kernel)) (by decide +kernel)
    · exact k _ _ "str" s0 (.base (.str _)) (bTys_mem (by decide +kernel)) (by decide +kernel)
    · exact k _ _ "list" s0 (.base (.lst (s5 _ _ (s4 _ _ (s3 _ _ (s2 _ _ e1)))))) (bTys_mem (by decide +kernel)) (by decide +kernel)
    · exact k _ _ "tuple" s0 (.base (.tup (s5 _ _ (s4 _ _ (s3 _ _ e2))))) (bTys_mem (by decide +kernel)) (by decide +kernel)
    · exact k _ _ "dict" s0 (.base (.dK (s5 _ _ (s4 _ _ e3)))) (bTys_mem (by decide +kernel)) (by decide +kernel)
    · exact k _ _ "NoneType" s0 (.base .non) (bTys_mem (by decide +kernel)) (by decide +kernel)
    · exact k _ _ "bool" s0 (.base (.bl _)) (bTys_mem (by decide +kernel)) (by decide +kernel)
    · exact k _ _ "bool" s0 (.base (.bl _)) (bTys_mem (by decide +kernel)) (by decide +kernel)
    · exact k _ _ "str" s0 (.base (.str _)) (bTys_mem (by decide +kernel)) (by decide +kernel)
    · exact k _ _ "list" s0 (.base (.lst (s5 _ _ e4))) (bTys_mem (by decide +kernel)) (by decide +kernel)
theorem b_thing (T : Txt K mg) : Binds K (fdOf K ("_law_thing", none)) ["_law_number", "_law_way"] [] := T.d_thing.bindsN fun _ _ _ _ _ _ us hl => match us, hl with | [_, _], _ => rfl
theorem sc_law : FnScope ["_law_script", "_law_number", "_law_way", "_law_k", "_law_found"] ["_law_script"] (defScope s_law) := ⟨rfl, rfl, rfl, by decide +kernel, rfl, by decide +kernel, by decide +kernel⟩

set_option maxHeartbeats 4000000 in
theorem ok_law (T : Txt K mg) : FnOk P w K mg base CX0 2 (He.fAd K ("law", none)) (fdOf K ("law", none)) ["_law_script"] (sp_law K) := by
  refine T.d_law.ok sc_law (fun vs H Q E h => ?_) (fun cdv A outer s H vs Q E hr h => ?_)
  · obtain ⟨a, ns, rfl, _⟩ := h.ex
    rfl
  · obtain ⟨a, ns, rfl, hS, hlen, hbits, hO, k⟩ := h.ex
    refine ⟨_, (PSs.nox (pss_cons (ps_set (i := 1) sc_law.nd rfl (Or.inl rfl) (pe_op op_sub (pe_op op_mod (pe_call (ok_cell_at T) (hr.mono (by decide)) rfl T.g_cell_at T.d_cell_at.kp (b_cell_at T) .nil pass0 (pa_cons (pv 0) (pa_cons pe_int pa_nil))) (pe_op op_add (pe_op op_mulW pe_int (pe_powC 39)) pe_int)) (pe_powC 39)))
      (pss_cons (ps_set (i := 2) sc_law.nd rfl (Or.inl rfl) (pe_op op_mod (pe_call (ok_cell_at T) (hr.mono (by decide)) rfl T.g_cell_at T.d_cell_at.kp (b_cell_at T) .nil pass0 (pa_cons (pv 0) (pa_cons pe_int pa_nil))) pe_int))
      (pss_cons (ps_for PassesOwn.never rfl (pi_range1 (by rfl) T.z_range (pa_cons pe_int pa_nil)) (pg_name (i := 3) sc_law.nd rfl (Or.inl rfl)) (pss_cons (ps_set (i := 4) sc_law.nd rfl (Or.inl rfl) (pe_call (ok_is_whole T) (hr.mono (by decide)) rfl T.g_is_whole T.d_is_whole.kp (b_is_whole T) .nil pass0 (pa_cons (pe_call (ok_thing T) (hr.mono (by decide)) rfl T.g_thing T.d_thing.kp (b_thing T) .nil pass0 (pa_cons (pv 1) (pa_cons (pv 2) pa_nil))) pa_nil)))
      (pss_cons (ps_if (PW.pt (pw_or (pt_not (pt_val (pe_callB call_isi (by rfl) T.z_isinstance (by decide +kernel) (pa_cons (pv 4) (pa_cons (pe_bltn (v := .ty "bool") (by rfl) T.z_bool (by decide +kernel) rfl) pa_nil))))) (pw_or1 (pt_cmpR op_ne (pv 4) (pe_cmpR op_eq (pv 2) pe_int (nomark _)) (nomark _))))) (pss_one (ps_ret pe_bl)) pss_nil)
      (pss_one (ps_if (PW.pt (pw_or (pt_cmpR op_notBl (pe_call (ok_is_whole T) (hr.mono (by decide)) rfl T.g_is_whole T.d_is_whole.kp (b_is_whole T) .nil pass0 (pa_cons (pe_op op_add (pv 1) (pv 3)) pa_nil)) pe_bl (nomark _)) (pw_or1 (pt_cmpR op_notBl (pe_call (ok_is_whole T) (hr.mono (by decide)) rfl T.g_is_whole T.d_is_whole.kp (b_is_whole T) .nil pass0 (pa_cons (pe_cmpR op_eq (pv 3) pe_int (nomark _)) pa_nil)) pe_bl (nomark _))))) (pss_one (ps_ret pe_bl)) pss_nil)))))
      (pss_one (ps_ret pe_bl)))))), ?_⟩
    walk_at "rd"
    refine ⟨.go, a, ns, 0, rfl, hS, by decide, ?_⟩
    walk_at "rd"
    refine ⟨.go, a, ns, 1, rfl, hS, by decide, ?_⟩
    walk_at "rd"
    have hn : (cellAt ns 0 % (2 * 10 ^ 39 + 1) - 10 ^ 39).natAbs < 2 ^ 200 := by
      have h1 := Int.emod_nonneg (cellAt ns 0) (b := 2 * 10 ^ 39 + 1) (by decide +kernel)
      have h2 := Int.emod_lt_of_pos (cellAt ns 0) (b := 2 * 10 ^ 39 + 1) (by decide +kernel)
      omega
    have hw0 : 0 ≤ cellAt ns 1 % 10 := Int.emod_nonneg _ (by decide)
    have hw1 : cellAt ns 1 % 10 < 10 := Int.emod_lt_of_pos _ (by decide)
    obtain ⟨n, en⟩ : ∃ n, n = cellAt ns 0 % (2 * 10 ^ 39 + 1) - 10 ^ 39 := ⟨_, rfl⟩
    obtain ⟨i, ei⟩ : ∃ i, i = cellAt ns 1 % 10 := ⟨_, rfl⟩
    rw [← en] at hn
    rw [← ei] at hw0 hw1
    refine ⟨by decide, by decide, for_range (lo := 0) (n := 2) (fun _ σ H' => ∃ u v, σ = [some (.ref a), some (.int n), some (.int i), u, v] ∧ Same H H') ⟨none, none, by rw [en, ei]; rfl, Same.refl H⟩ ?_ ?_⟩
    · rintro j σ H' hj ⟨u, v, rfl, s0⟩
      walk_at "rd"
      refine ⟨.go, n, i, rfl, lg hn, hw0, hw1, fun x H1 t s1 ty ht et => ?_⟩
      walk_at "rd"
      refine ⟨.go, x, t, rfl, ty, ht, ?_⟩
      walk_at "rd"
      refine iteE (c := false) (by simp [et]) ?_
      walk_at "rd"
      refine ⟨.go, _, "int", rfl, .base (.int _), bTys_mem (by decide +kernel), ?_⟩
      walk_at "rd"
      refine ⟨.go, _, "bool", rfl, .base (.bl _), bTys_mem (by decide +kernel), ?_⟩
      walk_at "rd"
      exact ⟨_, _, rfl, s0.trans s1⟩
    · rintro σ H' ⟨u, v, rfl, s0⟩
      exact k H'
theorem b_law (T : Txt K mg) : Binds K (fdOf K ("law", none)) ["_law_script"] [] := T.d_law.bindsN fun _ _ _ _ _ _ us hl => match us, hl with | [_], _ => rfl
end
def dd_cell_at : He.DefD := ⟨("_law_cell_at", none), "_law_cell_at", "_law_cell_at", defArgs s_cell_at, defBody s_cell_at, defScope s_cell_at, [], []⟩
def dd_thing : He.DefD := ⟨("_law_thing", none), "_law_thing", "_law_thing", defArgs s_thing, defBody s_thing, defScope s_thing, [], []⟩
def dd_is_whole : He.DefD := ⟨("is_whole", none), "is_whole", "is_whole", defArgs s_is_whole, defBody s_is_whole, defScope s_is_whole, [], []⟩
def dd_law : He.DefD := ⟨("law", none), "law", "law", defArgs s_law, defBody s_law, defScope s_law, [], []⟩
def fn : List He.DefD := ([dd_cell_at, dd_thing, dd_is_whole, dd_law] : List He.DefD)
def fa : List He.Fa := ([.free "len", .glo "_law_cell_at", .free "range", .free "int", .free "isinstance", .free "bool", .free "str", .glo "_law_thing", .glo "is_whole", .glo "law"] : List He.Fa)
def exs : List (PySem.W.Frag → Bool) := ([] : List (PySem.W.Frag → Bool))
def exB (K : PySem.W.Frag) : Bool := exs.all fun f => f K
theorem exs_ok {K : PySem.W.Frag} (h : exB K = true) (i : Nat) {f : PySem.W.Frag → Bool} (e : exs[i]? = some f) : f K = true := List.all_eq_true.mp h f (List.mem_of_getElem? e)
theorem txt_mk {w : World} {h : Heap} {K : PySem.W.Frag} {mg : Str → Option Value} (X : K.In h) (G : h.Ns mainGlobals mg) (c : He.SaysX fa fn [] [] exB w h K) : Txt K mg :=
  ⟨He.free_ok X G (c.t.d.fact 0 (f := .free "len") rfl),
   (let ⟨_, F⟩ := c.t.d.def_ 0 (d := dd_cell_at) rfl; fnT_mk F),
   He.glo_ok X G (c.t.d.fact 1 (f := .glo "_law_cell_at") rfl),
   He.free_ok X G (c.t.d.fact 2 (f := .free "range") rfl),
   He.free_ok X G (c.t.d.fact 3 (f := .free "int") rfl),
   He.free_ok X G (c.t.d.fact 4 (f := .free "isinstance") rfl),
   He.free_ok X G (c.t.d.fact 5 (f := .free "bool") rfl),
   He.free_ok X G (c.t.d.fact 6 (f := .free "str") rfl),
   (let ⟨_, F⟩ := c.t.d.def_ 1 (d := dd_thing) rfl; fnT_mk F),
   He.glo_ok X G (c.t.d.fact 7 (f := .glo "_law_thing") rfl),
   (let ⟨_, F⟩ := c.t.d.def_ 2 (d := dd_is_whole) rfl; fnT_mk F),
   He.glo_ok X G (c.t.d.fact 8 (f := .glo "is_whole") rfl),
   (let ⟨_, F⟩ := c.t.d.def_ 3 (d := dd_law) rfl; fnT_mk F),
   He.glo_ok X G (c.t.d.fact 9 (f := .glo "law") rfl)⟩
def names : List PySem.Str := (["is_whole", "_law_cell_at", "_law_thing"] : List PySem.Str)
abbrev R : PySem.W.OpenRow := PySem.W.OpenLaw.row PySem.Challenge.rw_wakefew_k01_a_whole_number
abbrev hk : PySem.W.Hook := He.hookX 6 fa fn [] [] exB
def ob (s : PySem.W.SharedT) : He.AlX := He.obsX 6 fa fn [] [] exB (HandSHeadRun.getT s)
theorem ob_eq (s : PySem.W.SharedT) : ob s = hk.obs s.abs := He.obsX_eq (HandSHeadRun.getT_eq s)
set_option maxHeartbeats 0 in
theorem run (w : World) : HandSHeadRun.RunEq R (PySem.W.view R.prog [5]) hk ob 6000 names w := by
  intro os
  kernel_rfl
end W
open PySem PySem.W PyProof.Rows
set_option maxRecDepth 100000 in
set_option maxHeartbeats 0 in
theorem PySem.Challenge.cw_wakefew_k01_a_whole_number_holds : PySem.Challenge.rw_wakefew_k01_a_whole_number.Holds := by
  w_on; o_law
  refine HandSHeadRun.head_any (r := OpenLaw.row PySem.Challenge.rw_wakefew_k01_a_whole_number) (q := view (OpenLaw.row PySem.Challenge.rw_wakefew_k01_a_whole_number).prog [5]) (H := W.hk) (ob := W.ob) (M := 6000) (loose := W.names) (d := HandSHeadRun.topDef (OpenLaw.row PySem.Challenge.rw_wakefew_k01_a_whole_number).prog 5) (kwd := []) W.ob_eq
    (by kernel_rfl) (fun s => by kernel_rfl) W.run (by kernel_rfl) (by kernel_rfl) (by kernel_rfl) (by rfl) (by first | assumption | decide +kernel) (by decide +kernel) ⟨rfl, rfl, rfl, rfl, rfl, by decide +kernel⟩ ?hw ?hc
  case hw => w_witness2
  case hc =>
    refine W.walk_ofEB (l := PySem.Challenge.rw_wakefew_k01_a_whole_number) (n := 63) (k := 2) (x := "_law_script") (CX := L2.CX0) rfl (by decide) (by kernel_rfl) ⟨rfl, by decide, by decide⟩ ?F (fun _ _ _ _ z => z)
    intro w mg fa h Y G hmg0
    obtain ⟨K, KX, c⟩ := Y
    have hmg : mg ("law" : PySem.Str) = some (.ref fa) := by
      have e : (HandSHeadRun.topDef (OpenLaw.row PySem.Challenge.rw_wakefew_k01_a_whole_number).prog 5).name = ("law" : PySem.Str) := by kernel_rfl
      rw [← e]
      exact hmg0
    have T := W.txt_mk KX G c
    have e := hmg.symm.trans T.g_law
    cases e
    have b := L2.FunD.bindsA (ps := ["_law_script"]) T.d_law fun _ _ _ _ _ _ us hl => match us, hl with | [_], _ => rfl
    exact ⟨K, W.fdOf K ("law", none), W.sp_law K, KX, fun s v => b s [v] rfl, fun H a ns hl hb hO hS => ⟨.go, ⟨a, ns, rfl, hS, hl, hb, hO, fun _ => rfl⟩⟩, fun base _ _ => W.ok_law T⟩
#print axioms PySem.Challenge.cw_wakefew_k01_a_whole_number_holds
