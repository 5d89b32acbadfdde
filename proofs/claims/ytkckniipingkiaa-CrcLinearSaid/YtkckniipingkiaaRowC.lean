/- What the row of CrcLinear stands on. -/
import Derived.Test.YtkckniipingkiaaLawC
import Derived.Test.YtkckniipingkiaaOpen
